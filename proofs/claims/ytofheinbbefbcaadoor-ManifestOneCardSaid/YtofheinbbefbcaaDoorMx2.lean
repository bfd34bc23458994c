/- Texts of one claim put together: what its walks share. -/
import Derived.Test.YtofheinbbefbcaaDoorMx1
/- What functions compute, in plain terms; printed. -/
namespace Go.Proofs.YtofheinbbefbcaaDoor
open Go Go.RowKit
set_option maxRecDepth 100000
def m_law11_great (x0 : Mf) : Option (Bool) :=
  some (decide (70 < (x0.segs.length : Int)))
def m_manifest_within (x0 : Int) (x1 : Int) (x2 : Int) : Option (Bool) :=
  cond (decide (x1 ≤ x0))
   (
    some (decide (x0 ≤ x2)))
   (
    some false)
def m_manifest_Check_l1 (x0 : Mf) : Nat → Int → Int → List (Int × Int) → Option (Int)
  | 0, _, _, _ => none
  | n + 1, v54, v55, v56 =>
      cond (decide (v55 < (x0.segs.length : Int)))
       (
        (idx x0.segs v55).bind fun e62 =>
        cond (decide (e62.count = (-1)))
         (
          (m_manifest_within e62.seq 1 (IntKind.wrap .i64 (x0.next - 1))).bind fun r73 =>
          cond r73
           (
            (m_manifest_within e62.fmt 1 2).bind fun r76 =>
            cond r76
             (
              cond (!(decide ((getI v56 e62.seq) = 0)))
               (
                some 2)
               (
                (m_manifest_within e62.first 1 1073741820).bind fun r85 =>
                cond (!r85)
                 (
                  some 2)
                 (
                  cond (!(decide (v55 = (IntKind.wrap .i64 ((x0.segs.length : Int) - 1)))))
                   (
                    (m_manifest_within e62.count 1 4).bind fun r92 =>
                    cond (!r92)
                     (
                      some 2)
                     (
                      cond (decide (0 < v55))
                       (
                        cond (decide (e62.first ≠ v54))
                         (
                          some 2)
                         (
                          m_manifest_Check_l1 x0 n (IntKind.wrap .i64 (e62.first + e62.count)) (IntKind.wrap .i64 (v55 + 1)) (updI v56 e62.seq 1)))
                       (
                        m_manifest_Check_l1 x0 n (IntKind.wrap .i64 (e62.first + e62.count)) (IntKind.wrap .i64 (v55 + 1)) (updI v56 e62.seq 1))))
                   (
                    cond (decide (0 < v55))
                     (
                      cond (decide (e62.first ≠ v54))
                       (
                        some 2)
                       (
                        m_manifest_Check_l1 x0 n (IntKind.wrap .i64 (e62.first + e62.count)) (IntKind.wrap .i64 (v55 + 1)) (updI v56 e62.seq 1)))
                     (
                      m_manifest_Check_l1 x0 n (IntKind.wrap .i64 (e62.first + e62.count)) (IntKind.wrap .i64 (v55 + 1)) (updI v56 e62.seq 1))))))
             (
              some 2))
           (
            some 2))
         (
          (m_manifest_within e62.seq 1 (IntKind.wrap .i64 (x0.next - 1))).bind fun r126 =>
          cond r126
           (
            (m_manifest_within e62.fmt 1 2).bind fun r129 =>
            cond r129
             (
              cond (!(decide ((getI v56 e62.seq) = 0)))
               (
                some 2)
               (
                (m_manifest_within e62.first 1 1073741820).bind fun r138 =>
                cond (!r138)
                 (
                  some 2)
                 (
                  (m_manifest_within e62.count 1 4).bind fun r144 =>
                  cond (!r144)
                   (
                    some 2)
                   (
                    cond (decide (0 < v55))
                     (
                      cond (decide (e62.first ≠ v54))
                       (
                        some 2)
                       (
                        m_manifest_Check_l1 x0 n (IntKind.wrap .i64 (e62.first + e62.count)) (IntKind.wrap .i64 (v55 + 1)) (updI v56 e62.seq 1)))
                     (
                      m_manifest_Check_l1 x0 n (IntKind.wrap .i64 (e62.first + e62.count)) (IntKind.wrap .i64 (v55 + 1)) (updI v56 e62.seq 1))))))
             (
              some 2))
           (
            some 2)))
       (
        some 0)
def m_manifest_Check_l2 (x0 : Mf) : Nat → Int → Int → List (Int × Int) → Option (Int)
  | 0, _, _, _ => none
  | n + 1, v182, v183, v184 =>
      cond (decide (v183 < (x0.segs.length : Int)))
       (
        (idx x0.segs v183).bind fun e190 =>
        cond (decide (e190.count = (-1)))
         (
          (m_manifest_within e190.seq 1 (IntKind.wrap .i64 (x0.next - 1))).bind fun r201 =>
          cond r201
           (
            (m_manifest_within e190.fmt 1 2).bind fun r204 =>
            cond r204
             (
              cond (!(decide ((getI v184 e190.seq) = 0)))
               (
                some 2)
               (
                (m_manifest_within e190.first 1 1073741820).bind fun r213 =>
                cond (!r213)
                 (
                  some 2)
                 (
                  cond (!(decide (v183 = (IntKind.wrap .i64 ((x0.segs.length : Int) - 1)))))
                   (
                    (m_manifest_within e190.count 1 4).bind fun r220 =>
                    cond (!r220)
                     (
                      some 2)
                     (
                      cond (decide (0 < v183))
                       (
                        cond (decide (e190.first ≠ v182))
                         (
                          some 2)
                         (
                          m_manifest_Check_l2 x0 n (IntKind.wrap .i64 (e190.first + e190.count)) (IntKind.wrap .i64 (v183 + 1)) (updI v184 e190.seq 1)))
                       (
                        m_manifest_Check_l2 x0 n (IntKind.wrap .i64 (e190.first + e190.count)) (IntKind.wrap .i64 (v183 + 1)) (updI v184 e190.seq 1))))
                   (
                    cond (decide (0 < v183))
                     (
                      cond (decide (e190.first ≠ v182))
                       (
                        some 2)
                       (
                        m_manifest_Check_l2 x0 n (IntKind.wrap .i64 (e190.first + e190.count)) (IntKind.wrap .i64 (v183 + 1)) (updI v184 e190.seq 1)))
                     (
                      m_manifest_Check_l2 x0 n (IntKind.wrap .i64 (e190.first + e190.count)) (IntKind.wrap .i64 (v183 + 1)) (updI v184 e190.seq 1))))))
             (
              some 2))
           (
            some 2))
         (
          (m_manifest_within e190.seq 1 (IntKind.wrap .i64 (x0.next - 1))).bind fun r254 =>
          cond r254
           (
            (m_manifest_within e190.fmt 1 2).bind fun r257 =>
            cond r257
             (
              cond (!(decide ((getI v184 e190.seq) = 0)))
               (
                some 2)
               (
                (m_manifest_within e190.first 1 1073741820).bind fun r266 =>
                cond (!r266)
                 (
                  some 2)
                 (
                  (m_manifest_within e190.count 1 4).bind fun r272 =>
                  cond (!r272)
                   (
                    some 2)
                   (
                    cond (decide (0 < v183))
                     (
                      cond (decide (e190.first ≠ v182))
                       (
                        some 2)
                       (
                        m_manifest_Check_l2 x0 n (IntKind.wrap .i64 (e190.first + e190.count)) (IntKind.wrap .i64 (v183 + 1)) (updI v184 e190.seq 1)))
                     (
                      m_manifest_Check_l2 x0 n (IntKind.wrap .i64 (e190.first + e190.count)) (IntKind.wrap .i64 (v183 + 1)) (updI v184 e190.seq 1))))))
             (
              some 2))
           (
            some 2)))
       (
        some 0)
def m_manifest_Check (x0 : Mf) : Option (Int) :=
  (m_manifest_within x0.next 1 1073741824).bind fun r13 =>
  cond (!r13)
   (
    some 2)
   (
    (m_manifest_within x0.term 0 1073741824).bind fun r19 =>
    cond (!r19)
     (
      some 2)
     (
      (m_manifest_within x0.vote 0 5).bind fun r25 =>
      cond (!r25)
       (
        some 2)
       (
        cond (decide (60 < (x0.segs.length : Int)))
         (
          some 2)
         (
          cond (!(decide (x0.snap.seq = 0) && (decide (x0.snap.fmt = 0))))
           (
            (m_manifest_within x0.snap.seq 1 (IntKind.wrap .i64 (x0.next - 1))).bind fun r40 =>
            cond r40
             (
              (m_manifest_within x0.snap.fmt 1 2).bind fun r43 =>
              cond r43
               (
                cond (!(decide ((getI (updI [] 0 1) x0.snap.seq) = 0)))
                 (
                  some 2)
                 (
                  m_manifest_Check_l1 x0 fuelN 0 0 (updI (updI [] 0 1) x0.snap.seq 1)))
               (
                some 2))
             (
              some 2))
           (
            m_manifest_Check_l2 x0 fuelN 0 0 (updI [] 0 1))))))

def m_manifest_Put_r1 : List (Int) → List UInt8 → Option (List UInt8 × Int)
  | [], v24 =>
      (m_crc_Put v24).bind fun r46 =>
      some (r46, 0)
  | e23 :: l0, v24 =>
      (m_num_Short ([e23] : List Int)).bind fun r33 =>
      (fewI (v24 ++ r33.1)).bind fun l39 =>
      m_manifest_Put_r1 l0 l39
def m_manifest_Put (x0 : Mf) : Option (List UInt8 × Int) :=
  (m_manifest_Check x0).bind fun r6 =>
  cond (decide (r6 ≠ 0))
   (
    some ([], r6))
   (
    (m_it_numbers x0).bind fun xs28 =>
    m_manifest_Put_r1 xs28 ([77] : List UInt8))
def m_manifest_Take_r1 (x0 : List UInt8) (e71 : Int) (e74 : Int) (e77 : Int) (e80 : Int) (e83 : Int) : List (Nat × List Int) → List Sg → Option (Mf × Int)
  | [], v97 =>
      (m_manifest_Put (⟨e71, e74, e77, (⟨e80, e83⟩ : Rf), v97⟩ : Mf)).bind fun r126 =>
      cond (decide (r126.2 = 0))
       (
        (m_bytes_Equal x0 r126.1).bind fun r134 =>
        cond r134
         (
          some ((⟨e71, e74, e77, (⟨e80, e83⟩ : Rf), v97⟩ : Mf), 0))
         (
          some ((⟨0, 0, 0, (⟨0, 0⟩ : Rf), []⟩ : Mf), 11)))
       (
        some ((⟨0, 0, 0, (⟨0, 0⟩ : Rf), []⟩ : Mf), 11))
  | e96 :: l0, v97 =>
      (idx e96.2 0).bind fun e104 =>
      (idx e96.2 1).bind fun e107 =>
      (idx e96.2 2).bind fun e110 =>
      (idx e96.2 3).bind fun e113 =>
      (fewI (v97 ++ ([(⟨e104, e107, e110, (IntKind.wrap .i64 (e113 - 1))⟩ : Sg)] : List Sg))).bind fun l118 =>
      m_manifest_Take_r1 x0 e71 e74 e77 e80 e83 l0 l118
def m_manifest_Take (x0 : List UInt8) : Option (Mf × Int) :=
  (m_crc_Take x0).bind fun r6 =>
  cond (!r6.2)
   (
    some ((⟨0, 0, 0, (⟨0, 0⟩ : Rf), []⟩ : Mf), 11))
   (
    cond (decide ((r6.1.length : Int) = 0))
     (
      some ((⟨0, 0, 0, (⟨0, 0⟩ : Rf), []⟩ : Mf), 11))
     (
      (dropI r6.1 1).bind fun l24 =>
      (m_num_Takes l24 6).bind fun r26 =>
      cond (decide (r26.2.2 ≠ 0))
       (
        some ((⟨0, 0, 0, (⟨0, 0⟩ : Rf), []⟩ : Mf), 11))
       (
        (idx r26.1 5).bind fun e41 =>
        cond (decide (60 < e41))
         (
          some ((⟨0, 0, 0, (⟨0, 0⟩ : Rf), []⟩ : Mf), 11))
         (
          (dropI r6.1 1).bind fun l50 =>
          (idx r26.1 5).bind fun e52 =>
          (m_num_Takes l50 (IntKind.wrap .i64 (6 + (IntKind.wrap .i64 (4 * e52))))).bind fun r55 =>
          cond (decide (r55.2.2 ≠ 0))
           (
            some ((⟨0, 0, 0, (⟨0, 0⟩ : Rf), []⟩ : Mf), 11))
           (
            (idx r26.1 0).bind fun e71 =>
            (idx r26.1 1).bind fun e74 =>
            (idx r26.1 2).bind fun e77 =>
            (idx r26.1 3).bind fun e80 =>
            (idx r26.1 4).bind fun e83 =>
            (dropI r55.1 6).bind fun l88 =>
            (m_it_chunk l88 4).bind fun xs102 =>
            m_manifest_Take_r1 x0 e71 e74 e77 e80 e83 xs102 [])))))
def m_manifest_Open (x0 : Mf) : Option (Int × Bool) :=
  cond (decide ((IntKind.wrap .i64 ((x0.segs.length : Int) - 1)) < 0))
   (
    some ((-1), false))
   (
    (idx x0.segs (IntKind.wrap .i64 ((x0.segs.length : Int) - 1))).bind fun e10 =>
    cond (decide (e10.count ≠ (-1)))
     (
      some ((-1), false))
     (
      some ((IntKind.wrap .i64 ((x0.segs.length : Int) - 1)), true)))
def m_manifest_Keep_l1 (x0 : Mf) : Nat → List Id → Int → Option (List Id)
  | 0, _, _ => none
  | n + 1, v19, v23 =>
      cond (decide (v23 < (x0.segs.length : Int)))
       (
        (idx x0.segs v23).bind fun e29 =>
        (fewI (v19 ++ ([(⟨3, e29.seq, e29.fmt⟩ : Id)] : List Id))).bind fun l36 =>
        m_manifest_Keep_l1 x0 n l36 (IntKind.wrap .i64 (v23 + 1)))
       (
        some v19)
def m_manifest_Keep_l2 (x0 : Mf) : Nat → List Id → Int → Option (List Id)
  | 0, _, _ => none
  | n + 1, v46, v50 =>
      cond (decide (v50 < (x0.segs.length : Int)))
       (
        (idx x0.segs v50).bind fun e56 =>
        (fewI (v46 ++ ([(⟨3, e56.seq, e56.fmt⟩ : Id)] : List Id))).bind fun l63 =>
        m_manifest_Keep_l2 x0 n l63 (IntKind.wrap .i64 (v50 + 1)))
       (
        some v46)
def m_manifest_Keep (x0 : Mf) : Option (List Id) :=
  cond (decide (x0.snap.seq ≠ 0))
   (
    (fewI (([(⟨1, 0, 0⟩ : Id)] : List Id) ++ ([(⟨4, x0.snap.seq, x0.snap.fmt⟩ : Id)] : List Id))).bind fun l12 =>
    m_manifest_Keep_l1 x0 fuelN l12 0)
   (
    m_manifest_Keep_l2 x0 fuelN ([(⟨1, 0, 0⟩ : Id)] : List Id) 0)
def m_ref11_Same_l1 (x0 : Mf) (x1 : Mf) : Nat → Bool → Int → Option (Bool)
  | 0, _, _ => none
  | n + 1, v25, v26 =>
      cond (decide (v26 < (x0.segs.length : Int)))
       (
        (idx x0.segs v26).bind fun e32 =>
        (idx x1.segs v26).bind fun e35 =>
        cond (!(decide (e32.seq = e35.seq) && (decide (e32.fmt = e35.fmt) && (decide (e32.first = e35.first) && (decide (e32.count = e35.count))))))
         (
          some false)
         (
          m_ref11_Same_l1 x0 x1 n v25 (IntKind.wrap .i64 (v26 + 1))))
       (
        some true)
def m_ref11_Same (x0 : Mf) (x1 : Mf) : Option (Bool) :=
  cond (decide (x0.next ≠ x1.next))
   (
    some false)
   (
    cond (decide (x0.term ≠ x1.term))
     (
      some false)
     (
      cond (decide (x0.vote ≠ x1.vote))
       (
        some false)
       (
        cond (!(decide (x0.snap.seq = x1.snap.seq) && (decide (x0.snap.fmt = x1.snap.fmt))))
         (
          some false)
         (
          cond (decide ((x0.segs.length : Int) ≠ (x1.segs.length : Int)))
           (
            some false)
           (
            m_ref11_Same_l1 x0 x1 fuelN false 0)))))
def m_manifest_Two_1 (x0 : Sg) : Option (Bool) :=
  some (decide (x0.fmt = 2))
def m_manifest_Two_l1 (x0 : Mf) : Nat → Int → Int → Option (Bool)
  | 0, _, _ => none
  | n + 1, v12, v13 =>
      cond (decide (v13 < (x0.segs.length : Int)))
       (
        (idx x0.segs v13).bind fun e20 =>
        (m_manifest_Two_1 e20).bind fun r23 =>
        cond r23
         (
          some (decide (0 ≤ v13)))
         (
          m_manifest_Two_l1 x0 n v12 (IntKind.wrap .i64 (v13 + 1))))
       (
        some (decide (0 ≤ (-1))))
def m_manifest_Two (x0 : Mf) : Option (Bool) :=
  cond (decide (x0.snap.fmt = 2))
   (
    some true)
   (
    m_manifest_Two_l1 x0 fuelN 0 0)
def m_law11_wakes : Option (Bool) :=
  (m_manifest_Put (⟨1, 0, 0, (⟨0, 0⟩ : Rf), []⟩ : Mf)).bind fun r3 =>
  (m_manifest_Put (⟨9, 3, 1, (⟨2, 1⟩ : Rf), ([(⟨4, 2, 5, 4⟩ : Sg), (⟨8, 1, 9, (-1)⟩ : Sg)] : List Sg)⟩ : Mf)).bind fun r15 =>
  (m_manifest_Take r15.1).bind fun r22 =>
  (m_manifest_Open r22.1).bind fun r31 =>
  (m_manifest_Put (⟨0, 0, 0, (⟨0, 0⟩ : Rf), []⟩ : Mf)).bind fun r34 =>
  (m_manifest_Keep (⟨9, 3, 1, (⟨2, 1⟩ : Rf), ([(⟨4, 2, 5, 4⟩ : Sg), (⟨8, 1, 9, (-1)⟩ : Sg)] : List Sg)⟩ : Mf)).bind fun r41 =>
  cond (decide (r3.2 = 0))
   (
    cond (decide ((r3.1.length : Int) = 11))
     (
      (takeI r3.1 7).bind fun l50 =>
      (m_law11_same l50 ([77, 1, 0, 0, 0, 0, 0] : List UInt8)).bind fun r54 =>
      cond r54
       (
        cond (decide (r15.2 = 0))
         (
          cond (decide (r22.2 = 0))
           (
            (m_ref11_Same (⟨9, 3, 1, (⟨2, 1⟩ : Rf), ([(⟨4, 2, 5, 4⟩ : Sg), (⟨8, 1, 9, (-1)⟩ : Sg)] : List Sg)⟩ : Mf) r22.1).bind fun r59 =>
            cond r59
             (
              cond (decide (r31.1 = 1))
               (
                cond r31.2
                 (
                  cond (decide (r34.2 = 2))
                   (
                    cond (decide ((r41.length : Int) = 4))
                     (
                      (idx r41 1).bind fun e66 =>
                      cond (decide (e66.kind = 4) && (decide (e66.seq = 2) && (decide (e66.fmt = 1))))
                       (
                        (m_manifest_Two (⟨9, 3, 1, (⟨2, 1⟩ : Rf), ([(⟨4, 2, 5, 4⟩ : Sg), (⟨8, 1, 9, (-1)⟩ : Sg)] : List Sg)⟩ : Mf)).bind fun r70 =>
                        cond r70
                         (
                          (m_manifest_Two (⟨0, 0, 0, (⟨0, 0⟩ : Rf), []⟩ : Mf)).bind fun r73 =>
                          some (!r73))
                         (
                          some false))
                       (
                        some false))
                     (
                      some false))
                   (
                    some false))
                 (
                  some false))
               (
                some false))
             (
              some false))
           (
            some false))
         (
          some false))
       (
        some false))
     (
      some false))
   (
    some false)
def m_ref11_within (x0 : Int) (x1 : Int) (x2 : Int) : Option (Bool) :=
  cond (decide (x1 ≤ x0))
   (
    some (decide (x0 ≤ x2)))
   (
    some false)
def m_ref11_file (x0 : Mf) (x1 : Int) (x2 : Int) : Option (Bool) :=
  (m_ref11_within x1 1 (IntKind.wrap .i64 (x0.next - 1))).bind fun r5 =>
  cond r5
   (
    cond (decide (x2 = 1))
     (
      some true)
     (
      some (decide (x2 = 2))))
   (
    some false)
def m_ref11_seg_l1 (x0 : Mf) (x1 : Int) (e5 : Sg) : Nat → Bool → Int → Option (Bool)
  | 0, _, _ => none
  | n + 1, v27, v28 =>
      cond (decide (v28 < x1))
       (
        (idx x0.segs v28).bind fun e34 =>
        cond (decide (e34.seq = e5.seq))
         (
          some false)
         (
          m_ref11_seg_l1 x0 x1 e5 n v27 (IntKind.wrap .i64 (v28 + 1))))
       (
        cond (decide (0 < x1))
         (
          (idx x0.segs (IntKind.wrap .i64 (x1 - 1))).bind fun e44 =>
          (idx x0.segs (IntKind.wrap .i64 (x1 - 1))).bind fun e47 =>
          cond (decide (e5.first ≠ (IntKind.wrap .i64 (e44.first + e47.count))))
           (
            some false)
           (
            (m_ref11_within e5.count 1 4).bind fun r54 =>
            cond r54
             (
              some true)
             (
              cond (decide (e5.count = (-1)))
               (
                some (decide (x1 = (IntKind.wrap .i64 ((x0.segs.length : Int) - 1)))))
               (
                some false))))
         (
          (m_ref11_within e5.count 1 4).bind fun r62 =>
          cond r62
           (
            some true)
           (
            cond (decide (e5.count = (-1)))
             (
              some (decide (x1 = (IntKind.wrap .i64 ((x0.segs.length : Int) - 1)))))
             (
              some false))))
def m_ref11_seg (x0 : Mf) (x1 : Int) : Option (Bool) :=
  (idx x0.segs x1).bind fun e5 =>
  (m_ref11_file x0 e5.seq e5.fmt).bind fun r12 =>
  cond (!r12)
   (
    some false)
   (
    cond (decide (e5.seq = x0.snap.seq))
     (
      some false)
     (
      (m_ref11_within e5.first 1 1073741820).bind fun r20 =>
      cond (!r20)
       (
        some false)
       (
        m_ref11_seg_l1 x0 x1 e5 fuelN false 0)))
def m_ref11_Check_l1 (x0 : Mf) : Nat → Int → Int → Option (Int)
  | 0, _, _ => none
  | n + 1, v34, v35 =>
      cond (decide (v35 < (x0.segs.length : Int)))
       (
        (m_ref11_seg x0 v35).bind fun r41 =>
        cond (!r41)
         (
          some 2)
         (
          m_ref11_Check_l1 x0 n v34 (IntKind.wrap .i64 (v35 + 1))))
       (
        some 0)
def m_ref11_Check_l2 (x0 : Mf) : Nat → Int → Int → Option (Int)
  | 0, _, _ => none
  | n + 1, v51, v52 =>
      cond (decide (v52 < (x0.segs.length : Int)))
       (
        (m_ref11_seg x0 v52).bind fun r58 =>
        cond (!r58)
         (
          some 2)
         (
          m_ref11_Check_l2 x0 n v51 (IntKind.wrap .i64 (v52 + 1))))
       (
        some 0)
def m_ref11_Check (x0 : Mf) : Option (Int) :=
  (m_ref11_within x0.next 1 1073741824).bind fun r6 =>
  cond (!r6)
   (
    some 2)
   (
    (m_ref11_within x0.term 0 1073741824).bind fun r11 =>
    cond (!r11)
     (
      some 2)
     (
      (m_ref11_within x0.vote 0 5).bind fun r16 =>
      cond (!r16)
       (
        some 2)
       (
        cond (decide (60 < (x0.segs.length : Int)))
         (
          some 2)
         (
          cond (!(decide (x0.snap.seq = 0) && (decide (x0.snap.fmt = 0))))
           (
            (m_ref11_file x0 x0.snap.seq x0.snap.fmt).bind fun r27 =>
            cond (!r27)
             (
              some 2)
             (
              m_ref11_Check_l1 x0 fuelN 0 0))
           (
            m_ref11_Check_l2 x0 fuelN 0 0)))))
def m_ref05_May (x0 : Id) : Option (Bool) :=
  cond (decide (x0.kind = 1))
   (
    cond (decide (x0.seq = 0))
     (
      some (decide (x0.fmt = 0)))
     (
      some false))
   (
    cond (decide (x0.kind = 2))
     (
      cond (decide (x0.seq = 0))
       (
        some (decide (x0.fmt = 0)))
       (
        some false))
     (
      cond (decide (x0.kind = 3))
       (
        cond (decide (1 ≤ x0.seq))
         (
          cond (decide (x0.seq ≤ 1073741824))
           (
            cond (decide (x0.fmt = 1))
             (
              some true)
             (
              some (decide (x0.fmt = 2))))
           (
            some false))
         (
          some false))
       (
        cond (decide (x0.kind = 4))
         (
          cond (decide (1 ≤ x0.seq))
           (
            cond (decide (x0.seq ≤ 1073741824))
             (
              cond (decide (x0.fmt = 1))
               (
                some true)
               (
                some (decide (x0.fmt = 2))))
             (
              some false))
           (
            some false))
         (
          some false))))
def m_ref11_Names_l2 (kk2 : Bool → Int → Option (Bool)) (x0 : List Id) (v5 : Int) : Nat → Bool → Int → Option (Bool)
  | 0, _, _ => none
  | n2 + 1, v21, v22 =>
      cond (decide (v22 < v5))
       (
        (idx x0 v22).bind fun e28 =>
        (idx x0 v5).bind fun e31 =>
        cond (decide (e28.kind = e31.kind) && (decide (e28.seq = e31.seq) && (decide (e28.fmt = e31.fmt))))
         (
          some false)
         (
          m_ref11_Names_l2 kk2 x0 v5 n2 v21 (IntKind.wrap .i64 (v22 + 1))))
       (
        kk2 v21 (IntKind.wrap .i64 (v5 + 1)))
def m_ref11_Names_l1 (x0 : List Id) : Nat → Bool → Int → Option (Bool)
  | 0, _, _ => none
  | n + 1, v4, v5 =>
      cond (decide (v5 < (x0.length : Int)))
       (
        (idx x0 v5).bind fun e12 =>
        (m_ref05_May e12).bind fun r15 =>
        cond (!r15)
         (
          some false)
         (
          m_ref11_Names_l2 (m_ref11_Names_l1 x0 n) x0 v5 fuelN v4 0))
       (
        some true)
def m_ref11_Names (x0 : List Id) : Option (Bool) :=
  m_ref11_Names_l1 x0 fuelN false 0
def m_ref11_Own (x0 : Mf) : Option (Mf) :=
  (fewI ([] ++ x0.segs)).bind fun l9 =>
  some (⟨x0.next, x0.term, x0.vote, x0.snap, l9⟩ : Mf)
def m_slices_Equal___api_Seg_api_Seg__l1 (x0 : List Sg) (x1 : List Sg) : Nat → Bool → Int → Option (Bool)
  | 0, _, _ => none
  | n + 1, v9, v10 =>
      cond (decide (v10 < (x0.length : Int)))
       (
        (idx x0 v10).bind fun e17 =>
        (idx x1 v10).bind fun e20 =>
        cond (!(decide (e17.seq = e20.seq) && (decide (e17.fmt = e20.fmt) && (decide (e17.first = e20.first) && (decide (e17.count = e20.count))))))
         (
          some false)
         (
          m_slices_Equal___api_Seg_api_Seg__l1 x0 x1 n v9 (IntKind.wrap .i64 (v10 + 1))))
       (
        some true)
def m_slices_Equal___api_Seg_api_Seg_ (x0 : List Sg) (x1 : List Sg) : Option (Bool) :=
  cond (decide ((x0.length : Int) ≠ (x1.length : Int)))
   (
    some false)
   (
    m_slices_Equal___api_Seg_api_Seg__l1 x0 x1 fuelN false 0)
def m_manifest_Same (x0 : Mf) (x1 : Mf) : Option (Bool) :=
  (m_slices_Equal___api_Seg_api_Seg_ x0.segs x1.segs).bind fun r7 =>
  cond r7
   (
    cond (decide (x0.next = x1.next))
     (
      cond (decide (x0.term = x1.term))
       (
        cond (decide (x0.vote = x1.vote))
         (
          some (decide (x0.snap.seq = x1.snap.seq) && (decide (x0.snap.fmt = x1.snap.fmt))))
         (
          some false))
       (
        some false))
     (
      some false))
   (
    some false)
def m_ref11_Put_l1 (x0 : Mf) : Nat → List Int → Int → Option (List UInt8 × Int)
  | 0, _, _ => none
  | n + 1, v16, v20 =>
      cond (decide (v20 < (x0.segs.length : Int)))
       (
        (idx x0.segs v20).bind fun e26 =>
        (fewI (v16 ++ ([e26.seq, e26.fmt, e26.first, (IntKind.wrap .i64 (e26.count + 1))] : List Int))).bind fun l33 =>
        m_ref11_Put_l1 x0 n l33 (IntKind.wrap .i64 (v20 + 1)))
       (
        (m_ref01_Short v16).bind fun r40 =>
        (fewI (([77] : List UInt8) ++ r40.1)).bind fun l49 =>
        (m_ref03_Put l49).bind fun r54 =>
        some (r54, 0))
def m_ref11_Put (x0 : Mf) : Option (List UInt8 × Int) :=
  (m_ref11_Check x0).bind fun r6 =>
  cond (decide (r6 ≠ 0))
   (
    some ([], 2))
   (
    m_ref11_Put_l1 x0 fuelN ([x0.next, x0.term, x0.vote, x0.snap.seq, x0.snap.fmt, (x0.segs.length : Int)] : List Int) 0)
def m_ref11_Take_l1 (x0 : List UInt8) (r22 : List Int × List UInt8 × Int) (e44 : Int) (e47 : Int) (e50 : Int) (e53 : Int) (e56 : Int) : Nat → Int → List UInt8 → Int → List Sg → Option (Mf × Int)
  | 0, _, _, _, _ => none
  | n + 1, v63, v64, v68, v69 =>
      (idx r22.1 5).bind fun e76 =>
      cond (decide (v68 < e76))
       (
        (m_ref01_Takes v64 4).bind fun r82 =>
        cond (decide (r82.2.2 ≠ 0))
         (
          some ((⟨0, 0, 0, (⟨0, 0⟩ : Rf), []⟩ : Mf), 11))
         (
          (idx r82.1 0).bind fun e98 =>
          (idx r82.1 1).bind fun e101 =>
          (idx r82.1 2).bind fun e104 =>
          (idx r82.1 3).bind fun e107 =>
          (fewI (v69 ++ ([(⟨e98, e101, e104, (IntKind.wrap .i64 (e107 - 1))⟩ : Sg)] : List Sg))).bind fun l112 =>
          m_ref11_Take_l1 x0 r22 e44 e47 e50 e53 e56 n v63 r82.2.1 (IntKind.wrap .i64 (v68 + 1)) l112))
       (
        (m_ref11_Put (⟨e44, e47, e50, (⟨e53, e56⟩ : Rf), v69⟩ : Mf)).bind fun r119 =>
        cond (decide (r119.2 ≠ 0))
         (
          some ((⟨0, 0, 0, (⟨0, 0⟩ : Rf), []⟩ : Mf), 11))
         (
          cond (decide (r119.1 ≠ x0))
           (
            some ((⟨0, 0, 0, (⟨0, 0⟩ : Rf), []⟩ : Mf), 11))
           (
            some ((⟨e44, e47, e50, (⟨e53, e56⟩ : Rf), v69⟩ : Mf), 0))))
def m_ref11_Take (x0 : List UInt8) : Option (Mf × Int) :=
  (m_ref03_Take x0).bind fun r5 =>
  cond (!r5.2)
   (
    some ((⟨0, 0, 0, (⟨0, 0⟩ : Rf), []⟩ : Mf), 11))
   (
    cond (decide ((r5.1.length : Int) < 1))
     (
      some ((⟨0, 0, 0, (⟨0, 0⟩ : Rf), []⟩ : Mf), 11))
     (
      (dropI r5.1 1).bind fun l20 =>
      (m_ref01_Takes l20 6).bind fun r22 =>
      cond (decide (r22.2.2 ≠ 0))
       (
        some ((⟨0, 0, 0, (⟨0, 0⟩ : Rf), []⟩ : Mf), 11))
       (
        (idx r22.1 5).bind fun e37 =>
        cond (decide (60 < e37))
         (
          some ((⟨0, 0, 0, (⟨0, 0⟩ : Rf), []⟩ : Mf), 11))
         (
          (idx r22.1 0).bind fun e44 =>
          (idx r22.1 1).bind fun e47 =>
          (idx r22.1 2).bind fun e50 =>
          (idx r22.1 3).bind fun e53 =>
          (idx r22.1 4).bind fun e56 =>
          m_ref11_Take_l1 x0 r22 e44 e47 e50 e53 e56 fuelN 0 r22.2.1 0 []))))
def m_ref11_Open (x0 : Mf) : Option (Int × Bool) :=
  cond (decide ((IntKind.wrap .i64 ((x0.segs.length : Int) - 1)) < 0))
   (
    some ((-1), false))
   (
    (idx x0.segs (IntKind.wrap .i64 ((x0.segs.length : Int) - 1))).bind fun e10 =>
    cond (decide (e10.count ≠ (-1)))
     (
      some ((-1), false))
     (
      some ((IntKind.wrap .i64 ((x0.segs.length : Int) - 1)), true)))
def m_ref11_Keep_l1 (x0 : Mf) : Nat → List Id → Int → Option (List Id)
  | 0, _, _ => none
  | n + 1, v19, v23 =>
      cond (decide (v23 < (x0.segs.length : Int)))
       (
        (idx x0.segs v23).bind fun e28 =>
        (idx x0.segs v23).bind fun e31 =>
        (fewI (v19 ++ ([(⟨3, e28.seq, e31.fmt⟩ : Id)] : List Id))).bind fun l36 =>
        m_ref11_Keep_l1 x0 n l36 (IntKind.wrap .i64 (v23 + 1)))
       (
        some v19)
def m_ref11_Keep_l2 (x0 : Mf) : Nat → List Id → Int → Option (List Id)
  | 0, _, _ => none
  | n + 1, v46, v50 =>
      cond (decide (v50 < (x0.segs.length : Int)))
       (
        (idx x0.segs v50).bind fun e55 =>
        (idx x0.segs v50).bind fun e58 =>
        (fewI (v46 ++ ([(⟨3, e55.seq, e58.fmt⟩ : Id)] : List Id))).bind fun l63 =>
        m_ref11_Keep_l2 x0 n l63 (IntKind.wrap .i64 (v50 + 1)))
       (
        some v46)
def m_ref11_Keep (x0 : Mf) : Option (List Id) :=
  cond (decide (x0.snap.seq ≠ 0))
   (
    (fewI (([(⟨1, 0, 0⟩ : Id)] : List Id) ++ ([(⟨4, x0.snap.seq, x0.snap.fmt⟩ : Id)] : List Id))).bind fun l12 =>
    m_ref11_Keep_l1 x0 fuelN l12 0)
   (
    m_ref11_Keep_l2 x0 fuelN ([(⟨1, 0, 0⟩ : Id)] : List Id) 0)
def m_ref05_Idents_l1 (x0 : List Id) (x1 : List Id) : Nat → Bool → Int → Option (Bool)
  | 0, _, _ => none
  | n + 1, v9, v10 =>
      cond (decide (v10 < (x0.length : Int)))
       (
        (idx x0 v10).bind fun e16 =>
        (idx x1 v10).bind fun e19 =>
        cond (!(decide (e16.kind = e19.kind) && (decide (e16.seq = e19.seq) && (decide (e16.fmt = e19.fmt)))))
         (
          some false)
         (
          m_ref05_Idents_l1 x0 x1 n v9 (IntKind.wrap .i64 (v10 + 1))))
       (
        some true)
def m_ref05_Idents (x0 : List Id) (x1 : List Id) : Option (Bool) :=
  cond (decide ((x0.length : Int) ≠ (x1.length : Int)))
   (
    some false)
   (
    m_ref05_Idents_l1 x0 x1 fuelN false 0)
def m_ref11_Two_l1 (x0 : Mf) : Nat → Bool → Int → Option (Bool)
  | 0, _, _ => none
  | n + 1, v11, v12 =>
      cond (decide (v12 < (x0.segs.length : Int)))
       (
        (idx x0.segs v12).bind fun e18 =>
        cond (decide (e18.fmt = 2))
         (
          some true)
         (
          m_ref11_Two_l1 x0 n v11 (IntKind.wrap .i64 (v12 + 1))))
       (
        some false)
def m_ref11_Two (x0 : Mf) : Option (Bool) :=
  cond (decide (x0.snap.fmt = 2))
   (
    some true)
   (
    m_ref11_Two_l1 x0 fuelN false 0)
def m_slices_Clone___api_Seg_api_Seg_ (x0 : List Sg) : Option (List Sg) := fewI x0
def m_manifest_Own (x0 : Mf) : Option (Mf) :=
  (m_slices_Clone___api_Seg_api_Seg_ x0.segs).bind fun r7 =>
  some (⟨x0.next, x0.term, x0.vote, x0.snap, r7⟩ : Mf)
def m_law11_ManifestBack (x0 : Mf) (x1 : Int) (x2 : UInt8) : Option (Bool) :=
  (m_law11_great x0).bind fun r6 =>
  cond r6
   (
    (m_law11_wakes).bind fun r10 =>
    some r10)
   (
    (m_manifest_Put x0).bind fun r14 =>
    (m_ref11_Check x0).bind fun r22 =>
    cond (decide (r22 ≠ 0))
     (
      cond (decide (r14.2 = 2))
       (
        cond (decide ((r14.1.length : Int) = 0))
         (
          (m_manifest_Check x0).bind fun r28 =>
          cond (decide (r28 = 2))
           (
            (m_law11_wakes).bind fun r31 =>
            some r31)
           (
            some false))
         (
          some false))
       (
        some false))
     (
      (m_manifest_Take r14.1).bind fun r38 =>
      cond (decide (r14.2 ≠ 0))
       (
        some false)
       (
        cond (decide (r38.2 ≠ 0))
         (
          some false)
         (
          (m_ref11_Same r38.1 x0).bind fun r54 =>
          cond (!r54)
           (
            some false)
           (
            cond (decide ((r14.1.length : Int) = 0))
             (
              some false)
             (
              (remI x1 (r14.1.length : Int)).bind fun q63 =>
              (remI (IntKind.wrap .i64 ((Int.tmod x1 (r14.1.length : Int)) + (r14.1.length : Int))) (r14.1.length : Int)).bind fun q65 =>
              (fewI ([] ++ r14.1)).bind fun l70 =>
              (idx l70 (Int.tmod (IntKind.wrap .i64 ((Int.tmod x1 (r14.1.length : Int)) + (r14.1.length : Int))) (r14.1.length : Int))).bind fun e76 =>
              (idx l70 (Int.tmod (IntKind.wrap .i64 ((Int.tmod x1 (r14.1.length : Int)) + (r14.1.length : Int))) (r14.1.length : Int))).bind fun e79 =>
              (m_manifest_Take (setI l70 (Int.tmod (IntKind.wrap .i64 ((Int.tmod x1 (r14.1.length : Int)) + (r14.1.length : Int))) (r14.1.length : Int)) (e76 ^^^ x2))).bind fun r84 =>
              (fewI ([] ++ r14.1)).bind fun l95 =>
              (fewI (l95 ++ ([x2] : List UInt8))).bind fun l102 =>
              (m_manifest_Take l102).bind fun r107 =>
              (takeI r14.1 (IntKind.wrap .i64 ((r14.1.length : Int) - 1))).bind fun l116 =>
              (m_manifest_Take l116).bind fun r118 =>
              cond (decide ((decide (r84.2 = 0)) = (decide ((x2.toNat : Int) = 0))))
               (
                cond (decide (r107.2 = 11))
                 (
                  cond (decide (r118.2 = 11))
                   (
                    (m_law11_wakes).bind fun r130 =>
                    some r130)
                   (
                    some false))
                 (
                  some false))
               (
                some false)))))))
def m_law11_ManifestOnly (x0 : List UInt8) : Option (Bool) :=
  cond (decide (900 < (x0.length : Int)))
   (
    (m_law11_wakes).bind fun r6 =>
    some r6)
   (
    (m_manifest_Take x0).bind fun r10 =>
    cond (decide (r10.2 ≠ 0))
     (
      cond (decide (r10.2 = 11))
       (
        (m_ref11_Same r10.1 (⟨0, 0, 0, (⟨0, 0⟩ : Rf), []⟩ : Mf)).bind fun r23 =>
        cond r23
         (
          (m_law11_wakes).bind fun r26 =>
          some r26)
         (
          some false))
       (
        some false))
     (
      (m_manifest_Put r10.1).bind fun r32 =>
      cond (decide (r32.2 = 0))
       (
        (m_law11_same r32.1 x0).bind fun r40 =>
        cond r40
         (
          (m_ref11_Check r10.1).bind fun r43 =>
          cond (decide (r43 = 0))
           (
            (m_law11_wakes).bind fun r46 =>
            some r46)
           (
            some false))
         (
          some false))
       (
        some false)))
def m_law11_ManifestNames_l2 (x0 : Mf) (r21 : List Id) (r48 : Int × Bool) : Nat → Bool → Int → Option (Bool)
  | 0, _, _ => none
  | n + 1, v74, v75 =>
      cond (decide (v75 < (r21.length : Int)))
       (
        cond v74
         (
          m_law11_ManifestNames_l2 x0 r21 r48 n true (IntKind.wrap .i64 (v75 + 1)))
         (
          (idx r21 v75).bind fun e82 =>
          m_law11_ManifestNames_l2 x0 r21 r48 n (decide (e82.fmt = 2)) (IntKind.wrap .i64 (v75 + 1))))
       (
        (m_manifest_Two x0).bind fun r87 =>
        cond (decide (r87 = v74))
         (
          cond r48.2
           (
            (m_manifest_Check x0).bind fun r91 =>
            cond (decide (r91 = 0))
             (
              (m_law11_wakes).bind fun r94 =>
              some r94)
             (
              some false))
           (
            cond (decide (r48.1 = (-1)))
             (
              (m_manifest_Check x0).bind fun r99 =>
              cond (decide (r99 = 0))
               (
                (m_law11_wakes).bind fun r102 =>
                some r102)
               (
                some false))
             (
              some false)))
         (
          some false))
def m_law11_ManifestNames_l1 (x0 : Mf) (r21 : List Id) (r48 : Int × Bool) : Nat → Bool → Int → Option (Bool)
  | 0, _, _ => none
  | n + 1, v52, v53 =>
      cond (decide (v53 < (x0.segs.length : Int)))
       (
        (idx x0.segs v53).bind fun e59 =>
        cond r48.2
         (
          cond (decide ((decide (e59.count = (-1))) ≠ (decide (v53 = r48.1))))
           (
            some false)
           (
            m_law11_ManifestNames_l1 x0 r21 r48 n v52 (IntKind.wrap .i64 (v53 + 1))))
         (
          cond (decide ((decide (e59.count = (-1))) ≠ false))
           (
            some false)
           (
            m_law11_ManifestNames_l1 x0 r21 r48 n v52 (IntKind.wrap .i64 (v53 + 1)))))
       (
        m_law11_ManifestNames_l2 x0 r21 r48 fuelN false 1)
def m_law11_ManifestNames_l4 (x0 : Mf) (r21 : List Id) (r125 : Int × Bool) : Nat → Bool → Int → Option (Bool)
  | 0, _, _ => none
  | n + 1, v151, v152 =>
      cond (decide (v152 < (r21.length : Int)))
       (
        cond v151
         (
          m_law11_ManifestNames_l4 x0 r21 r125 n true (IntKind.wrap .i64 (v152 + 1)))
         (
          (idx r21 v152).bind fun e159 =>
          m_law11_ManifestNames_l4 x0 r21 r125 n (decide (e159.fmt = 2)) (IntKind.wrap .i64 (v152 + 1))))
       (
        (m_manifest_Two x0).bind fun r164 =>
        cond (decide (r164 = v151))
         (
          cond r125.2
           (
            (m_manifest_Check x0).bind fun r168 =>
            cond (decide (r168 = 0))
             (
              (m_law11_wakes).bind fun r171 =>
              some r171)
             (
              some false))
           (
            cond (decide (r125.1 = (-1)))
             (
              (m_manifest_Check x0).bind fun r176 =>
              cond (decide (r176 = 0))
               (
                (m_law11_wakes).bind fun r179 =>
                some r179)
               (
                some false))
             (
              some false)))
         (
          some false))
def m_law11_ManifestNames_l3 (x0 : Mf) (r21 : List Id) (r125 : Int × Bool) : Nat → Bool → Int → Option (Bool)
  | 0, _, _ => none
  | n + 1, v129, v130 =>
      cond (decide (v130 < (x0.segs.length : Int)))
       (
        (idx x0.segs v130).bind fun e136 =>
        cond r125.2
         (
          cond (decide ((decide (e136.count = (-1))) ≠ (decide (v130 = r125.1))))
           (
            some false)
           (
            m_law11_ManifestNames_l3 x0 r21 r125 n v129 (IntKind.wrap .i64 (v130 + 1))))
         (
          cond (decide ((decide (e136.count = (-1))) ≠ false))
           (
            some false)
           (
            m_law11_ManifestNames_l3 x0 r21 r125 n v129 (IntKind.wrap .i64 (v130 + 1)))))
       (
        m_law11_ManifestNames_l4 x0 r21 r125 fuelN false 1)
def m_law11_ManifestNames (x0 : Mf) : Option (Bool) :=
  (m_law11_great x0).bind fun r6 =>
  cond r6
   (
    (m_law11_wakes).bind fun r10 =>
    some r10)
   (
    (m_ref11_Check x0).bind fun r13 =>
    cond (decide (r13 ≠ 0))
     (
      (m_law11_wakes).bind fun r17 =>
      some r17)
     (
      (m_manifest_Keep x0).bind fun r21 =>
      cond (decide (x0.snap.seq ≠ 0))
       (
        cond (decide ((r21.length : Int) ≠ (IntKind.wrap .i64 ((IntKind.wrap .i64 (1 + (x0.segs.length : Int))) + 1))))
         (
          some false)
         (
          (m_ref11_Names r21).bind fun r36 =>
          cond (!r36)
           (
            some false)
           (
            (idx r21 0).bind fun e41 =>
            cond (!(decide (e41.kind = 1) && (decide (e41.seq = 0) && (decide (e41.fmt = 0)))))
             (
              some false)
             (
              (m_manifest_Open x0).bind fun r48 =>
              m_law11_ManifestNames_l1 x0 r21 r48 fuelN false 0))))
       (
        cond (decide ((r21.length : Int) ≠ (IntKind.wrap .i64 (1 + (x0.segs.length : Int)))))
         (
          some false)
         (
          (m_ref11_Names r21).bind fun r113 =>
          cond (!r113)
           (
            some false)
           (
            (idx r21 0).bind fun e118 =>
            cond (!(decide (e118.kind = 1) && (decide (e118.seq = 0) && (decide (e118.fmt = 0)))))
             (
              some false)
             (
              (m_manifest_Open x0).bind fun r125 =>
              m_law11_ManifestNames_l3 x0 r21 r125 fuelN false 0))))))
def m_law11_ManifestOne (x0 : Mf) (x1 : Int) (x2 : Int) : Option (Bool) :=
  cond (decide (59 < (x0.segs.length : Int)))
   (
    (m_law11_wakes).bind fun r8 =>
    some r8)
   (
    (m_ref11_Check x0).bind fun r11 =>
    cond (decide (r11 ≠ 0))
     (
      (m_law11_wakes).bind fun r15 =>
      some r15)
     (
      cond (decide (x2 < 1))
       (
        (m_law11_wakes).bind fun r20 =>
        some r20)
       (
        cond (decide (1073741824 < x2))
         (
          (m_law11_wakes).bind fun r25 =>
          some r25)
         (
          (m_ref11_Own x0).bind fun r29 =>
          (m_ref11_Own x0).bind fun r35 =>
          (m_ref11_Own x0).bind fun r41 =>
          (m_ref11_Own x0).bind fun r47 =>
          (m_manifest_Check (⟨(IntKind.wrap .i64 (0 - x2)), r29.term, r29.vote, r29.snap, r29.segs⟩ : Mf)).bind fun r68 =>
          cond (decide (r68 ≠ 2))
           (
            some false)
           (
            (m_manifest_Check (⟨r35.next, (IntKind.wrap .i64 (0 - x2)), r35.vote, r35.snap, r35.segs⟩ : Mf)).bind fun r73 =>
            cond (decide (r73 ≠ 2))
             (
              some false)
             (
              (m_manifest_Check (⟨r41.next, r41.term, (IntKind.wrap .i64 (5 + x2)), r41.snap, r41.segs⟩ : Mf)).bind fun r78 =>
              cond (decide (r78 ≠ 2))
               (
                some false)
               (
                (m_manifest_Check (⟨r47.next, r47.term, r47.vote, (⟨(IntKind.wrap .i64 ((IntKind.wrap .i64 (x0.next - 1)) + x2)), 1⟩ : Rf), r47.segs⟩ : Mf)).bind fun r83 =>
                cond (decide (r83 ≠ 2))
                 (
                  some false)
                 (
                  cond (decide ((x0.segs.length : Int) = 0))
                   (
                    (m_law11_wakes).bind fun r92 =>
                    some r92)
                   (
                    (remI x1 (x0.segs.length : Int)).bind fun q96 =>
                    (remI (IntKind.wrap .i64 ((Int.tmod x1 (x0.segs.length : Int)) + (x0.segs.length : Int))) (x0.segs.length : Int)).bind fun q98 =>
                    (m_ref11_Own x0).bind fun r106 =>
                    (idx r106.segs (Int.tmod (IntKind.wrap .i64 ((Int.tmod x1 (x0.segs.length : Int)) + (x0.segs.length : Int))) (x0.segs.length : Int))).bind fun e115 =>
                    (m_manifest_Check (⟨r106.next, r106.term, r106.vote, r106.snap, (setI r106.segs (Int.tmod (IntKind.wrap .i64 ((Int.tmod x1 (x0.segs.length : Int)) + (x0.segs.length : Int))) (x0.segs.length : Int)) (⟨(IntKind.wrap .i64 ((IntKind.wrap .i64 (x0.next - 1)) + x2)), e115.fmt, e115.first, e115.count⟩ : Sg))⟩ : Mf)).bind fun r123 =>
                    cond (decide (r123 ≠ 2))
                     (
                      some false)
                     (
                      (m_manifest_Same (⟨r106.next, r106.term, r106.vote, r106.snap, (setI r106.segs (Int.tmod (IntKind.wrap .i64 ((Int.tmod x1 (x0.segs.length : Int)) + (x0.segs.length : Int))) (x0.segs.length : Int)) (⟨(IntKind.wrap .i64 ((IntKind.wrap .i64 (x0.next - 1)) + x2)), e115.fmt, e115.first, e115.count⟩ : Sg))⟩ : Mf) x0).bind fun r128 =>
                      cond r128
                       (
                        some false)
                       (
                        (m_ref11_Own x0).bind fun r137 =>
                        (idx r137.segs (Int.tmod (IntKind.wrap .i64 ((Int.tmod x1 (x0.segs.length : Int)) + (x0.segs.length : Int))) (x0.segs.length : Int))).bind fun e146 =>
                        (m_manifest_Check (⟨r137.next, r137.term, r137.vote, r137.snap, (setI r137.segs (Int.tmod (IntKind.wrap .i64 ((Int.tmod x1 (x0.segs.length : Int)) + (x0.segs.length : Int))) (x0.segs.length : Int)) (⟨e146.seq, (IntKind.wrap .i64 (2 + x2)), e146.first, e146.count⟩ : Sg))⟩ : Mf)).bind fun r155 =>
                        cond (decide (r155 ≠ 2))
                         (
                          some false)
                         (
                          (m_manifest_Same (⟨r137.next, r137.term, r137.vote, r137.snap, (setI r137.segs (Int.tmod (IntKind.wrap .i64 ((Int.tmod x1 (x0.segs.length : Int)) + (x0.segs.length : Int))) (x0.segs.length : Int)) (⟨e146.seq, (IntKind.wrap .i64 (2 + x2)), e146.first, e146.count⟩ : Sg))⟩ : Mf) x0).bind fun r160 =>
                          cond r160
                           (
                            some false)
                           (
                            (m_ref11_Own x0).bind fun r169 =>
                            (idx r169.segs (Int.tmod (IntKind.wrap .i64 ((Int.tmod x1 (x0.segs.length : Int)) + (x0.segs.length : Int))) (x0.segs.length : Int))).bind fun e178 =>
                            (m_manifest_Check (⟨r169.next, r169.term, r169.vote, r169.snap, (setI r169.segs (Int.tmod (IntKind.wrap .i64 ((Int.tmod x1 (x0.segs.length : Int)) + (x0.segs.length : Int))) (x0.segs.length : Int)) (⟨e178.seq, e178.fmt, (IntKind.wrap .i64 (0 - x2)), e178.count⟩ : Sg))⟩ : Mf)).bind fun r188 =>
                            cond (decide (r188 ≠ 2))
                             (
                              some false)
                             (
                              (m_manifest_Same (⟨r169.next, r169.term, r169.vote, r169.snap, (setI r169.segs (Int.tmod (IntKind.wrap .i64 ((Int.tmod x1 (x0.segs.length : Int)) + (x0.segs.length : Int))) (x0.segs.length : Int)) (⟨e178.seq, e178.fmt, (IntKind.wrap .i64 (0 - x2)), e178.count⟩ : Sg))⟩ : Mf) x0).bind fun r193 =>
                              cond r193
                               (
                                some false)
                               (
                                (m_ref11_Own x0).bind fun r202 =>
                                (idx r202.segs (Int.tmod (IntKind.wrap .i64 ((Int.tmod x1 (x0.segs.length : Int)) + (x0.segs.length : Int))) (x0.segs.length : Int))).bind fun e211 =>
                                (m_manifest_Check (⟨r202.next, r202.term, r202.vote, r202.snap, (setI r202.segs (Int.tmod (IntKind.wrap .i64 ((Int.tmod x1 (x0.segs.length : Int)) + (x0.segs.length : Int))) (x0.segs.length : Int)) (⟨e211.seq, e211.fmt, e211.first, (IntKind.wrap .i64 (4 + x2))⟩ : Sg))⟩ : Mf)).bind fun r222 =>
                                cond (decide (r222 ≠ 2))
                                 (
                                  some false)
                                 (
                                  (m_manifest_Same (⟨r202.next, r202.term, r202.vote, r202.snap, (setI r202.segs (Int.tmod (IntKind.wrap .i64 ((Int.tmod x1 (x0.segs.length : Int)) + (x0.segs.length : Int))) (x0.segs.length : Int)) (⟨e211.seq, e211.fmt, e211.first, (IntKind.wrap .i64 (4 + x2))⟩ : Sg))⟩ : Mf) x0).bind fun r227 =>
                                  cond r227
                                   (
                                    some false)
                                   (
                                    (m_ref11_Own x0).bind fun r236 =>
                                    (idx r236.segs (Int.tmod (IntKind.wrap .i64 ((Int.tmod x1 (x0.segs.length : Int)) + (x0.segs.length : Int))) (x0.segs.length : Int))).bind fun e245 =>
                                    (m_manifest_Check (⟨r236.next, r236.term, r236.vote, r236.snap, (setI r236.segs (Int.tmod (IntKind.wrap .i64 ((Int.tmod x1 (x0.segs.length : Int)) + (x0.segs.length : Int))) (x0.segs.length : Int)) (⟨e245.seq, e245.fmt, e245.first, (IntKind.wrap .i64 ((-1) - x2))⟩ : Sg))⟩ : Mf)).bind fun r257 =>
                                    cond (decide (r257 ≠ 2))
                                     (
                                      some false)
                                     (
                                      (m_manifest_Same (⟨r236.next, r236.term, r236.vote, r236.snap, (setI r236.segs (Int.tmod (IntKind.wrap .i64 ((Int.tmod x1 (x0.segs.length : Int)) + (x0.segs.length : Int))) (x0.segs.length : Int)) (⟨e245.seq, e245.fmt, e245.first, (IntKind.wrap .i64 ((-1) - x2))⟩ : Sg))⟩ : Mf) x0).bind fun r262 =>
                                      cond r262
                                       (
                                        some false)
                                       (
                                        (m_ref11_Own x0).bind fun r271 =>
                                        (idx r271.segs (Int.tmod (IntKind.wrap .i64 ((Int.tmod x1 (x0.segs.length : Int)) + (x0.segs.length : Int))) (x0.segs.length : Int))).bind fun e280 =>
                                        (idx r271.segs (Int.tmod (IntKind.wrap .i64 ((Int.tmod x1 (x0.segs.length : Int)) + (x0.segs.length : Int))) (x0.segs.length : Int))).bind fun e291 =>
                                        (fewI (r271.segs ++ ([e291] : List Sg))).bind fun l296 =>
                                        (m_manifest_Check (⟨r271.next, r271.term, r271.vote, r271.snap, l296⟩ : Mf)).bind fun r302 =>
                                        cond (decide (r302 ≠ 2))
                                         (
                                          some false)
                                         (
                                          (m_manifest_Same (⟨r271.next, r271.term, r271.vote, r271.snap, l296⟩ : Mf) x0).bind fun r307 =>
                                          cond r307
                                           (
                                            some false)
                                           (
                                            (m_manifest_Same x0 x0).bind fun r315 =>
                                            cond r315
                                             (
                                              (m_law11_wakes).bind fun r318 =>
                                              some r318)
                                             (
                                              some false))))))))))))))))))))))
def m_law11_ManifestTells (x0 : Mf) (x1 : Mf) (x2 : List UInt8) : Option (Bool) :=
  (m_law11_great x0).bind fun r8 =>
  cond r8
   (
    (m_law11_wakes).bind fun r12 =>
    some r12)
   (
    (m_law11_great x1).bind fun r15 =>
    cond r15
     (
      (m_law11_wakes).bind fun r19 =>
      some r19)
     (
      cond (decide (900 < (x2.length : Int)))
       (
        (m_law11_wakes).bind fun r24 =>
        some r24)
       (
        (m_manifest_Put x0).bind fun r28 =>
        (m_ref11_Put x0).bind fun r35 =>
        (m_manifest_Take x2).bind fun r42 =>
        (m_ref11_Take x2).bind fun r51 =>
        (m_manifest_Open x0).bind fun r60 =>
        (m_ref11_Open x0).bind fun r63 =>
        (m_law11_same r28.1 r35.1).bind fun r67 =>
        cond (!r67)
         (
          some false)
         (
          cond (decide (r28.2 ≠ r35.2))
           (
            some false)
           (
            (m_ref11_Same r42.1 r51.1).bind fun r75 =>
            cond (!r75)
             (
              some false)
             (
              cond (decide (r42.2 ≠ r51.2))
               (
                some false)
               (
                cond (decide (r60.1 ≠ r63.1))
                 (
                  some false)
                 (
                  cond (decide (r60.2 ≠ r63.2))
                   (
                    some false)
                   (
                    (m_manifest_Check x0).bind fun r89 =>
                    (m_ref11_Check x0).bind fun r91 =>
                    cond (decide (r89 ≠ r91))
                     (
                      some false)
                     (
                      (m_manifest_Keep x0).bind fun r96 =>
                      (m_ref11_Keep x0).bind fun r102 =>
                      (m_ref05_Idents r96 r102).bind fun r108 =>
                      cond (!r108)
                       (
                        some false)
                       (
                        (m_manifest_Two x0).bind fun r114 =>
                        (m_ref11_Two x0).bind fun r116 =>
                        cond (decide (r114 = r116))
                         (
                          (m_manifest_Same x0 x1).bind fun r119 =>
                          (m_ref11_Same x0 x1).bind fun r121 =>
                          cond (decide (r119 = r121))
                           (
                            (m_manifest_Own x0).bind fun r124 =>
                            (m_ref11_Same r124 x0).bind fun r130 =>
                            cond r130
                             (
                              (m_law11_wakes).bind fun r133 =>
                              some r133)
                             (
                              some false))
                           (
                            some false))
                         (
                          some false))))))))))))
end Go.Proofs.YtofheinbbefbcaaDoor
/- What functions compute, in plain terms, and that they do; printed. -/
namespace Go.Proofs.YtofheinbbefbcaaDoor
open Go Go.RowKit
set_option maxRecDepth 100000
set_option maxHeartbeats 4000000
theorem c_law11_great (x0 : Mf) (A0_ : Option Addr) (c0_ : Nat) (w0 : World) (s0_ : SlI w0 enSg A0_ c0_ x0.segs) {r : Bool} (H : m_law11_great x0 = some r) : Calls Tryd.prog 28 #[.agg #[.int .i64 x0.next, .int .i64 x0.term, .int .i64 x0.vote, .int .i64 x0.snap.seq, .int .i64 x0.snap.fmt, .slice A0_ x0.segs.length c0_]] w0 fun e w' => e = .returned (.bool r) ∧ St0 All w0 w' [] := by
  unfold m_law11_great at H
  refine gw_enter1 Tryd.func28 rfl Tryd.ntmps28 rfl ?_
  have hS := St0.start All w0
  refine wpC_seq_k (fun K hK1 => ?_)
  refine wpC_region ?_
  refine wpS_box rfl rfl rfl CellsOf.agg hS (fun b2 w hS hB => ?_)
  refine wpS_quick 1 rfl ?_
  refine wpS_nil ?_
  refine QH_seq_k hK1 ?_
  refine wpC_seq_k (fun K hK4 => ?_)
  refine wpC_region ?_
  refine wpS_put rfl rfl rfl (yv_fieldAddr fo_50_4 rfl) ?_
  refine wpS_put rfl rfl rfl (yv_load_box sc_48 rfl (RW.here _) hS hs0 trivial sg5_1) ?_
  refine wpS_put rfl rfl rfl (yv_len el_48 rfl) ?_
  refine wpS_put rfl rfl rfl (yv_gtr rfl rfl) ?_
  refine wpS_quick 1 rfl ?_
  refine wpS_nil ?_
  refine QH_seq_k hK4 ?_
  refine wpC_ret ?_
  refine QH_ret rfl (RV.tmp rfl RV.nil) rfl ?_
  obtain rfl := Option.some.inj H
  replace hS := hS.cut 0
  exact ⟨rfl, hS⟩
theorem c_manifest_within (x0 : Int) (x1 : Int) (x2 : Int) (w0 : World) {r : Bool} (H : m_manifest_within x0 x1 x2 = some r) : Calls Tryd.prog 65 #[.int .i64 x0, .int .i64 x1, .int .i64 x2] w0 fun e w' => e = .returned (.bool r) ∧ St0 All w0 w' [] := by
  unfold m_manifest_within at H
  refine gw_enter3 Tryd.func65 rfl Tryd.ntmps65 rfl ?_
  have hS := St0.start All w0
  refine wpC_seq_k (fun K hK1 => ?_)
  refine wpC_region ?_
  refine wpS_quick 1 rfl ?_
  refine wpS_nil ?_
  refine QH_seq_k hK1 ?_
  refine wpC_seq_k (fun K hK2 => ?_)
  refine wpC_region ?_
  refine wpS_quick 2 rfl ?_
  refine wpS_put rfl rfl rfl (yv_geq rfl rfl) ?_
  refine wpS_quick 1 rfl ?_
  refine wpS_case 10 rfl (fun hb => ?_) (fun hb => ?_)
  rotate_left
  · replace H := cond_f H hb
    refine wpS_quick 5 rfl ?_
    refine wpS_nil ?_
    refine QH_seq_k hK2 ?_
    refine wpC_ret ?_
    refine QH_ret rfl (RV.tmp rfl RV.nil) rfl ?_
    obtain rfl := Option.some.inj H
    replace hS := hS.cut 0
    exact ⟨rfl, hS⟩
  replace H := cond_t H hb
  refine wpS_quick 2 rfl ?_
  refine wpS_put rfl rfl rfl (yv_leq rfl rfl) ?_
  refine wpS_quick 2 rfl ?_
  refine wpS_nil ?_
  refine QH_seq_k hK2 ?_
  refine wpC_ret ?_
  refine QH_ret rfl (RV.tmp rfl RV.nil) rfl ?_
  obtain rfl := Option.some.inj H
  replace hS := hS.cut 0
  exact ⟨rfl, hS⟩
theorem c_manifest_Check (x0 : Mf) (A0_ : Option Addr) (c0_ : Nat) (w0 : World) (s0_ : SlI w0 enSg A0_ c0_ x0.segs) {r : Int} (H : m_manifest_Check x0 = some r) : Calls Tryd.prog 32 #[.agg #[.int .i64 x0.next, .int .i64 x0.term, .int .i64 x0.vote, .int .i64 x0.snap.seq, .int .i64 x0.snap.fmt, .slice A0_ x0.segs.length c0_]] w0 fun e w' => e = .returned (.int .i64 r) ∧ St0 All w0 w' [] := by
  unfold m_manifest_Check at H
  refine gw_enter1 Tryd.func32 rfl Tryd.ntmps32 rfl ?_
  have hS := St0.start All w0
  refine wpC_seq_k (fun K hK1 => ?_)
  refine wpC_region ?_
  refine wpS_box rfl rfl rfl CellsOf.agg hS (fun b2 w hS hB => ?_)
  refine wpS_quick 1 rfl ?_
  refine wpS_nil ?_
  refine QH_seq_k hK1 ?_
  refine wpC_scope1 0 rfl ?_
  refine wpC_seq_k (fun K hK4 => ?_)
  refine wpC_region ?_
  refine wpS_quick 1 rfl ?_
  refine wpS_nil ?_
  refine QH_seq_k hK4 ?_
  refine wpC_seq_k (fun K hK5 => ?_)
  refine wpC_region ?_
  refine wpS_makeMapI rfl rfl hS (fun b6 w hS hB => ?_)
  refine wpS_insertI (kt := 3) (e := 3) rfl rfl rfl rfl (by kernel_rfl) (by kernel_rfl) hS ps0 (fun w hS hB => ?_)
  refine wpS_quick 1 rfl ?_
  refine wpS_alloc rfl rfl zc_88 hS (fun b8 w hS hB => ?_)
  refine wpS_store rfl rfl rfl CellsOf.map hS ps0 st0_1 (by kernel_rfl) rfl (fun w hS hB => ?_)
  refine wpS_nil ?_
  refine QH_seq_k hK5 ?_
  refine wpC_seq_k (fun K hK10 => ?_)
  refine wpC_region ?_
  refine wpS_put rfl rfl rfl (yv_makeFunc rfl rfl) ?_
  refine wpS_quick 1 rfl ?_
  refine wpS_nil ?_
  refine QH_seq_k hK10 ?_
  refine wpC_seq_k (fun K hK11 => ?_)
  refine wpC_seq_k (fun K hK12 => ?_)
  refine wpC_region ?_
  refine wpS_put rfl rfl rfl (yv_fieldAddr fo_50_0 rfl) ?_
  refine wpS_put rfl rfl rfl (yv_load_box sc_3 rfl (RW.here _) hS hs2 trivial sg0_1) ?_
  obtain ⟨r13, hm14, H⟩ := bind_some H
  refine wpS_call rfl rfl rfl rfl (by kernel_rfl) rfl (c_manifest_within x0.next 1 1073741824 _ hm14) ?_
  rintro e w ⟨rfl, hN⟩; refine ⟨_, rfl, ?_⟩; have hB := hN.pure; have hS := hS.join hN; clear hN
  refine wpS_put rfl rfl rfl (yv_not rfl) ?_
  refine wpS_quick 1 rfl ?_
  refine wpS_case 16 rfl (fun hb => ?_) (fun hb => ?_)
  · replace H := cond_t H hb
    refine wpS_quick 17 rfl ?_
    refine wpS_nil ?_
    refine QH_seq_k hK12 ?_
    refine wpC_cond_t rfl rfl ?_
    refine wpC_goto ?_
    refine QH_then_goto ?_
    refine QH_ahead ?_
    refine wpC_seq_k (fun K hK16 => ?_)
    refine wpC_skip ?_
    refine QH_seq_k hK16 ?_
    refine wpC_seq_k (fun K hK17 => ?_)
    refine wpC_region ?_
    refine wpS_quick 1 rfl ?_
    refine wpS_nil ?_
    refine QH_seq_k hK17 ?_
    refine wpC_ret ?_
    refine QH_jmp_ret ?_
    refine QH_ret rfl (RV.tmp rfl RV.nil) rfl ?_
    obtain rfl := Option.some.inj H
    replace hS := hS.cut 0
    exact ⟨rfl, hS⟩
  replace H := cond_f H hb
  refine wpS_put rfl rfl rfl (yv_fieldAddr fo_50_1 rfl) ?_
  refine wpS_put rfl rfl rfl (yv_load_box sc_3 rfl (RW.here _) hS hs2 trivial sg1_1) ?_
  obtain ⟨r19, hm20, H⟩ := bind_some H
  refine wpS_call rfl rfl rfl rfl (by kernel_rfl) rfl (c_manifest_within x0.term 0 1073741824 _ hm20) ?_
  rintro e w ⟨rfl, hN⟩; refine ⟨_, rfl, ?_⟩; have hB := hN.pure; have hS := hS.join hN; clear hN
  refine wpS_put rfl rfl rfl (yv_not rfl) ?_
  refine wpS_quick 2 rfl ?_
  refine wpS_case 22 rfl (fun hb => ?_) (fun hb => ?_)
  · replace H := cond_t H hb
    refine wpS_quick 11 rfl ?_
    refine wpS_nil ?_
    refine QH_seq_k hK12 ?_
    refine wpC_cond_t rfl rfl ?_
    refine wpC_goto ?_
    refine QH_then_goto ?_
    refine QH_ahead ?_
    refine wpC_seq_k (fun K hK22 => ?_)
    refine wpC_skip ?_
    refine QH_seq_k hK22 ?_
    refine wpC_seq_k (fun K hK23 => ?_)
    refine wpC_region ?_
    refine wpS_quick 1 rfl ?_
    refine wpS_nil ?_
    refine QH_seq_k hK23 ?_
    refine wpC_ret ?_
    refine QH_jmp_ret ?_
    refine QH_ret rfl (RV.tmp rfl RV.nil) rfl ?_
    obtain rfl := Option.some.inj H
    replace hS := hS.cut 0
    exact ⟨rfl, hS⟩
  replace H := cond_f H hb
  refine wpS_put rfl rfl rfl (yv_fieldAddr fo_50_2 rfl) ?_
  refine wpS_put rfl rfl rfl (yv_load_box sc_3 rfl (RW.here _) hS hs2 trivial sg2_1) ?_
  obtain ⟨r25, hm26, H⟩ := bind_some H
  refine wpS_call rfl rfl rfl rfl (by kernel_rfl) rfl (c_manifest_within x0.vote 0 5 _ hm26) ?_
  rintro e w ⟨rfl, hN⟩; refine ⟨_, rfl, ?_⟩; have hB := hN.pure; have hS := hS.join hN; clear hN
  refine wpS_put rfl rfl rfl (yv_not rfl) ?_
  refine wpS_quick 2 rfl ?_
  refine wpS_case 28 rfl (fun hb => ?_) (fun hb => ?_)
  · replace H := cond_t H hb
    refine wpS_quick 5 rfl ?_
    refine wpS_nil ?_
    refine QH_seq_k hK12 ?_
    refine wpC_cond_t rfl rfl ?_
    refine wpC_goto ?_
    refine QH_then_goto ?_
    refine QH_ahead ?_
    refine wpC_seq_k (fun K hK28 => ?_)
    refine wpC_skip ?_
    refine QH_seq_k hK28 ?_
    refine wpC_seq_k (fun K hK29 => ?_)
    refine wpC_region ?_
    refine wpS_quick 1 rfl ?_
    refine wpS_nil ?_
    refine QH_seq_k hK29 ?_
    refine wpC_ret ?_
    refine QH_jmp_ret ?_
    refine QH_ret rfl (RV.tmp rfl RV.nil) rfl ?_
    obtain rfl := Option.some.inj H
    replace hS := hS.cut 0
    exact ⟨rfl, hS⟩
  replace H := cond_f H hb
  refine wpS_put rfl rfl rfl (yv_fieldAddr fo_50_4 rfl) ?_
  refine wpS_put rfl rfl rfl (yv_load_box sc_48 rfl (RW.here _) hS hs2 trivial sg5_1) ?_
  refine wpS_put rfl rfl rfl (yv_len el_48 rfl) ?_
  refine wpS_put rfl rfl rfl (yv_gtr rfl rfl) ?_
  refine wpS_quick 1 rfl ?_
  refine wpS_nil ?_
  refine QH_seq_k hK12 ?_
  refine wpC_cond rfl (fun hb => ?_) (fun hb => ?_)
  · replace H := cond_t H hb
    refine wpC_goto ?_
    refine QH_then_goto ?_
    refine QH_ahead ?_
    refine wpC_seq_k (fun K hK32 => ?_)
    refine wpC_skip ?_
    refine QH_seq_k hK32 ?_
    refine wpC_seq_k (fun K hK33 => ?_)
    refine wpC_region ?_
    refine wpS_quick 1 rfl ?_
    refine wpS_nil ?_
    refine QH_seq_k hK33 ?_
    refine wpC_ret ?_
    refine QH_jmp_ret ?_
    refine QH_ret rfl (RV.tmp rfl RV.nil) rfl ?_
    obtain rfl := Option.some.inj H
    replace hS := hS.cut 0
    exact ⟨rfl, hS⟩
  replace H := cond_f H hb
  refine wpC_skip ?_
  refine QH_seq_k hK11 ?_
  refine wpC_seq_k (fun K hK35 => ?_)
  refine wpC_seq_k (fun K hK36 => ?_)
  refine wpC_region ?_
  refine wpS_put rfl rfl rfl (yv_fieldAddr fo_50_3 rfl) ?_
  refine wpS_put rfl rfl rfl (yv_load_boxA ag_47 rfl (RW.here _) hS hs2 trivial sg3_2) ?_
  refine wpS_put rfl rfl rfl (yv_build (cells := [.int .i64 0, .int .i64 0]) rfl (by kernel_rfl)) ?_
  refine wpS_put rfl rfl rfl (yv_neqS (by kernel_rfl) rfl rfl (eqT_47 _ _ _ _)) ?_
  refine wpS_quick 1 rfl ?_
  refine wpS_case 38 rfl (fun hb => ?_) (fun hb => ?_)
  rotate_left
  · replace H := cond_f H hb
    refine wpS_quick 10 rfl ?_
    refine wpS_nil ?_
    refine QH_seq_k hK36 ?_
    refine wpC_cond_f rfl rfl ?_
    refine wpC_skip ?_
    refine QH_seq_k hK35 ?_
    refine wpC_seq_k (fun K hK180 => ?_)
    refine wpC_seq_k (fun K hK181 => ?_)
    refine wpC_region ?_
    refine wpS_put rfl rfl rfl (yv_fieldAddr fo_50_4 rfl) ?_
    refine wpS_put rfl rfl rfl (yv_load_box sc_48 rfl (RW.here _) hS hs2 trivial sg5_1) ?_
    refine wpS_put rfl rfl rfl (yv_len el_48 rfl) ?_
    refine wpS_quick 1 rfl ?_
    refine wpS_nil ?_
    refine QH_seq_k hK181 ?_
    refine wpC_block ?_
    refine wpC_loop (X := Nat × Int × Int × List (Int × Int)) (fun x => (1, .pointer (some ⟨b2, 0, none⟩)) :: (2, .int .i64 0) :: (3, .int .i64 x.2.1) :: (5, .func (.func 64) #[] #[.pointer (some ⟨b2, 0, none⟩), .pointer (some ⟨b8, 0, none⟩)]) :: (50, .slice A0_ x0.segs.length c0_) :: (51, .int .i64 (x0.segs.length : Int)) :: (52, .int .i64 x.2.2.1) :: []) (fun x w => St0 All w0 w (.box b8 [.map (some b6)] 88 :: .obj b6 (mapIO x.2.2.2) :: .box b2 [.int .i64 x0.next, .int .i64 x0.term, .int .i64 x0.vote, .int .i64 x0.snap.seq, .int .i64 x0.snap.fmt, .slice A0_ x0.segs.length c0_] 50 :: []) ∧ m_manifest_Check_l2 x0 x.1 x.2.1 x.2.2.1 x.2.2.2 = some r) (fun x => x.1) (fuelN, 0, 0, (updI [] 0 1)) (by repeat (first | exact Sub.nil | refine Sub.cons rfl ?_)) ⟨hS, H⟩ ?_
    rintro ⟨n, v182, v183, v184⟩ w ⟨hS, H⟩
    dsimp only at hS H ⊢
    obtain _ | n := n
    · have H0 : none = some r := H
      cases H0
    rw [m_manifest_Check_l2] at H
    refine wpC_seq_k (fun K hK185 => ?_)
    refine wpC_region ?_
    refine wpS_put rfl rfl rfl (yv_lss rfl rfl) ?_
    refine wpS_nil ?_
    refine QH_seq_k hK185 ?_
    refine wpC_seq_k (fun K hK186 => ?_)
    refine wpC_cond rfl (fun hb => ?_) (fun hb => ?_)
    rotate_left
    · replace H := cond_f H hb
      refine wpC_exit ?_
      refine QH_then_exit ?_
      refine QH_then_exit ?_
      refine QH_block_hit ?_
      refine QH_seq_k hK180 ?_
      refine wpC_seq_k (fun K hK295 => ?_)
      refine wpC_seq_k (fun K hK296 => ?_)
      refine wpC_region ?_
      refine wpS_quick 1 rfl ?_
      refine wpS_nil ?_
      refine QH_seq_k hK296 ?_
      refine wpC_ret ?_
      refine QH_then_ret ?_
      refine QH_jmp_ret ?_
      refine QH_ret rfl (RV.tmp rfl RV.nil) rfl ?_
      obtain rfl := Option.some.inj H
      replace hS := hS.cut 0
      exact ⟨rfl, hS⟩
    replace H := cond_t H hb
    refine wpC_skip ?_
    refine QH_seq_k hK186 ?_
    refine wpC_seq_k (fun K hK188 => ?_)
    refine wpC_block ?_
    refine wpC_seq_k (fun K hK189 => ?_)
    refine wpC_region ?_
    refine wpS_quick 1 rfl ?_
    obtain ⟨e190, hi192, H⟩ := bind_some H
    obtain ⟨j191, hi192a, hi192b, hi192c⟩ := idx_some hi192
    refine wpS_put rfl rfl rfl (yx_idx el_48 rfl rfl hi192a hi192c (Rd.el (hS.rd0 s0_.rd) he_enSg hi192b)) ?_
    refine wpS_put rfl rfl rfl (yx_ldA0 ag_66 rfl (RW.here _) (Rd.el (hS.rd0 s0_.rd) he_enSg hi192b) sg0_4) ?_
    refine wpS_alloc rfl rfl zc_66 hS (fun b193 w hS hB => ?_)
    refine wpS_quick 1 rfl ?_
    refine wpS_store rfl rfl rfl CellsOf.agg hS ps0 st0_4 (by kernel_rfl) rfl (fun w hS hB => ?_)
    refine wpS_nil ?_
    refine QH_seq_k hK189 ?_
    refine wpC_seq_k (fun K hK195 => ?_)
    refine wpC_region ?_
    refine wpS_put rfl rfl rfl (yv_fieldAddr fo_66_3 rfl) ?_
    refine wpS_put rfl rfl rfl (yv_load_box sc_3 rfl (RW.here _) hS hs0 trivial sg3_1) ?_
    refine wpS_put rfl rfl rfl (yv_eql rfl rfl) ?_
    refine wpS_quick 1 rfl ?_
    refine wpS_case 60 rfl (fun hb => ?_) (fun hb => ?_)
    rotate_left
    · replace H := cond_f H hb
      refine wpS_quick 8 rfl ?_
      refine wpS_nil ?_
      refine QH_seq_k hK195 ?_
      refine wpC_seq_k (fun K hK250 => ?_)
      refine wpC_seq_k (fun K hK251 => ?_)
      refine wpC_region ?_
      refine wpS_quick 1 rfl ?_
      refine wpS_put rfl rfl rfl (yv_fieldAddr fo_66_0 rfl) ?_
      refine wpS_put rfl rfl rfl (yv_load_box sc_3 rfl (RW.here _) hS hs0 trivial sg0_1) ?_
      refine wpS_put rfl rfl rfl (yv_fieldAddr fo_66_1 rfl) ?_
      refine wpS_put rfl rfl rfl (yv_load_box sc_3 rfl (RW.here _) hS hs0 trivial sg1_1) ?_
      refine wpS_in rfl rfl rfl rfl (by kernel_rfl) rfl ?_
      show Calls _ _ #[_, _, _, _] _ _
      refine gw_enter4 Tryd.func64 rfl Tryd.ntmps64 rfl ?_
      refine wpC_seq_k (fun K hK252 => ?_)
      refine wpC_region ?_
      refine wpS_quick 1 rfl ?_
      refine wpS_nil ?_
      refine QH_seq_k hK252 ?_
      refine wpC_seq_k (fun K hK253 => ?_)
      refine wpC_region ?_
      refine wpS_quick 1 rfl ?_
      refine wpS_put rfl rfl rfl (yv_fieldAddr fo_50_0 rfl) ?_
      refine wpS_put rfl rfl rfl (yv_load_box sc_3 rfl (RW.here _) hS hs3 trivial sg0_1) ?_
      refine wpS_put rfl rfl rfl (yx_sub rfl rfl) ?_
      obtain ⟨r254, hm255, H⟩ := bind_some H
      refine wpS_call rfl rfl rfl rfl (by kernel_rfl) rfl (c_manifest_within e190.seq 1 (IntKind.wrap .i64 (x0.next - 1)) _ hm255) ?_
      rintro e w ⟨rfl, hN⟩; refine ⟨_, rfl, ?_⟩; have hB := hN.pure; have hS := hS.join hN; clear hN
      refine wpS_quick 1 rfl ?_
      refine wpS_case 13 rfl (fun hb => ?_) (fun hb => ?_)
      rotate_left
      · replace H := cond_f H hb
        refine wpS_quick 10 rfl ?_
        refine wpS_nil ?_
        refine QH_seq_k hK253 ?_
        refine wpC_seq_k (fun K hK290 => ?_)
        refine wpC_region ?_
        refine wpS_put rfl rfl rfl (yv_load_box sc_88 rfl (RW.here _) hS hs1 trivial sg0_1) ?_
        refine wpS_quick 1 rfl ?_
        refine wpS_updI (kt := 3) (e := 3) rfl rfl rfl rfl (by kernel_rfl) (by kernel_rfl) hS ps2 (fun w hS hB => ?_)
        refine wpS_nil ?_
        refine QH_seq_k hK290 ?_
        refine wpC_seq_k (fun K hK291 => ?_)
        refine wpC_region ?_
        refine wpS_quick 2 rfl ?_
        refine wpS_nil ?_
        refine QH_seq_k hK291 ?_
        refine wpC_ret ?_
        refine QH_ret rfl (RV.tmp rfl RV.nil) rfl ?_
        refine ⟨_, rfl, ?_⟩
        refine wpS_put rfl rfl rfl (yv_not rfl) ?_
        refine wpS_quick 26 rfl ?_
        refine wpS_nil ?_
        refine QH_seq_k hK251 ?_
        refine wpC_cond_t rfl rfl ?_
        refine wpC_goto ?_
        refine QH_then_goto ?_
        refine QH_block_goto ?_
        refine QH_then_goto ?_
        refine QH_then_goto ?_
        refine QH_block_goto ?_
        refine QH_then_goto ?_
        refine QH_ahead ?_
        refine wpC_seq_k (fun K hK292 => ?_)
        refine wpC_skip ?_
        refine QH_seq_k hK292 ?_
        refine wpC_seq_k (fun K hK293 => ?_)
        refine wpC_region ?_
        refine wpS_quick 1 rfl ?_
        refine wpS_nil ?_
        refine QH_seq_k hK293 ?_
        refine wpC_ret ?_
        refine QH_jmp_ret ?_
        refine QH_ret rfl (RV.tmp rfl RV.nil) rfl ?_
        obtain rfl := Option.some.inj H
        replace hS := hS.cut 0
        exact ⟨rfl, hS⟩
      replace H := cond_t H hb
      refine wpS_quick 1 rfl ?_
      obtain ⟨r257, hm258, H⟩ := bind_some H
      refine wpS_call rfl rfl rfl rfl (by kernel_rfl) rfl (c_manifest_within e190.fmt 1 2 _ hm258) ?_
      rintro e w ⟨rfl, hN⟩; refine ⟨_, rfl, ?_⟩; have hB := hN.pure; have hS := hS.join hN; clear hN
      refine wpS_quick 2 rfl ?_
      refine wpS_case 17 rfl (fun hb => ?_) (fun hb => ?_)
      rotate_left
      · replace H := cond_f H hb
        refine wpS_quick 6 rfl ?_
        refine wpS_nil ?_
        refine QH_seq_k hK253 ?_
        refine wpC_seq_k (fun K hK285 => ?_)
        refine wpC_region ?_
        refine wpS_put rfl rfl rfl (yv_load_box sc_88 rfl (RW.here _) hS hs1 trivial sg0_1) ?_
        refine wpS_quick 1 rfl ?_
        refine wpS_updI (kt := 3) (e := 3) rfl rfl rfl rfl (by kernel_rfl) (by kernel_rfl) hS ps2 (fun w hS hB => ?_)
        refine wpS_nil ?_
        refine QH_seq_k hK285 ?_
        refine wpC_seq_k (fun K hK286 => ?_)
        refine wpC_region ?_
        refine wpS_quick 2 rfl ?_
        refine wpS_nil ?_
        refine QH_seq_k hK286 ?_
        refine wpC_ret ?_
        refine QH_ret rfl (RV.tmp rfl RV.nil) rfl ?_
        refine ⟨_, rfl, ?_⟩
        refine wpS_put rfl rfl rfl (yv_not rfl) ?_
        refine wpS_quick 26 rfl ?_
        refine wpS_nil ?_
        refine QH_seq_k hK251 ?_
        refine wpC_cond_t rfl rfl ?_
        refine wpC_goto ?_
        refine QH_then_goto ?_
        refine QH_block_goto ?_
        refine QH_then_goto ?_
        refine QH_then_goto ?_
        refine QH_block_goto ?_
        refine QH_then_goto ?_
        refine QH_ahead ?_
        refine wpC_seq_k (fun K hK287 => ?_)
        refine wpC_skip ?_
        refine QH_seq_k hK287 ?_
        refine wpC_seq_k (fun K hK288 => ?_)
        refine wpC_region ?_
        refine wpS_quick 1 rfl ?_
        refine wpS_nil ?_
        refine QH_seq_k hK288 ?_
        refine wpC_ret ?_
        refine QH_jmp_ret ?_
        refine QH_ret rfl (RV.tmp rfl RV.nil) rfl ?_
        obtain rfl := Option.some.inj H
        replace hS := hS.cut 0
        exact ⟨rfl, hS⟩
      replace H := cond_t H hb
      refine wpS_put rfl rfl rfl (yv_load_box sc_88 rfl (RW.here _) hS hs1 trivial sg0_1) ?_
      refine wpS_quick 1 rfl ?_
      refine wpS_put rfl rfl rfl (yv_lookupI (kt := 3) (e := 3) rfl rfl (by kernel_rfl) (by kernel_rfl) (by intro w; kernel_rfl) (RW.here _) hS hs2 trivial) ?_
      refine wpS_put rfl rfl rfl (yv_eql rfl rfl) ?_
      refine wpS_quick 2 rfl ?_
      refine wpS_nil ?_
      refine QH_seq_k hK253 ?_
      refine wpC_seq_k (fun K hK260 => ?_)
      refine wpC_region ?_
      refine wpS_put rfl rfl rfl (yv_load_box sc_88 rfl (RW.here _) hS hs1 trivial sg0_1) ?_
      refine wpS_quick 1 rfl ?_
      refine wpS_updI (kt := 3) (e := 3) rfl rfl rfl rfl (by kernel_rfl) (by kernel_rfl) hS ps2 (fun w hS hB => ?_)
      refine wpS_nil ?_
      refine QH_seq_k hK260 ?_
      refine wpC_seq_k (fun K hK261 => ?_)
      refine wpC_region ?_
      refine wpS_quick 2 rfl ?_
      refine wpS_nil ?_
      refine QH_seq_k hK261 ?_
      refine wpC_ret ?_
      refine QH_ret rfl (RV.tmp rfl RV.nil) rfl ?_
      refine ⟨_, rfl, ?_⟩
      refine wpS_put rfl rfl rfl (yv_not rfl) ?_
      refine wpS_quick 1 rfl ?_
      refine wpS_case 75 rfl (fun hb => ?_) (fun hb => ?_)
      · replace H := cond_t H hb
        refine wpS_quick 25 rfl ?_
        refine wpS_nil ?_
        refine QH_seq_k hK251 ?_
        refine wpC_cond_t rfl rfl ?_
        refine wpC_goto ?_
        refine QH_then_goto ?_
        refine QH_block_goto ?_
        refine QH_then_goto ?_
        refine QH_then_goto ?_
        refine QH_block_goto ?_
        refine QH_then_goto ?_
        refine QH_ahead ?_
        refine wpC_seq_k (fun K hK263 => ?_)
        refine wpC_skip ?_
        refine QH_seq_k hK263 ?_
        refine wpC_seq_k (fun K hK264 => ?_)
        refine wpC_region ?_
        refine wpS_quick 1 rfl ?_
        refine wpS_nil ?_
        refine QH_seq_k hK264 ?_
        refine wpC_ret ?_
        refine QH_jmp_ret ?_
        refine QH_ret rfl (RV.tmp rfl RV.nil) rfl ?_
        obtain rfl := Option.some.inj H
        replace hS := hS.cut 0
        exact ⟨rfl, hS⟩
      replace H := cond_f H hb
      refine wpS_put rfl rfl rfl (yv_fieldAddr fo_66_2 rfl) ?_
      refine wpS_put rfl rfl rfl (yv_load_box sc_3 rfl (RW.here _) hS hs0 trivial sg2_1) ?_
      obtain ⟨r266, hm267, H⟩ := bind_some H
      refine wpS_call rfl rfl rfl rfl (by kernel_rfl) rfl (c_manifest_within e190.first 1 1073741820 _ hm267) ?_
      rintro e w ⟨rfl, hN⟩; refine ⟨_, rfl, ?_⟩; have hB := hN.pure; have hS := hS.join hN; clear hN
      refine wpS_put rfl rfl rfl (yv_not rfl) ?_
      refine wpS_quick 2 rfl ?_
      refine wpS_case 81 rfl (fun hb => ?_) (fun hb => ?_)
      · replace H := cond_t H hb
        refine wpS_quick 19 rfl ?_
        refine wpS_nil ?_
        refine QH_seq_k hK251 ?_
        refine wpC_cond_t rfl rfl ?_
        refine wpC_goto ?_
        refine QH_then_goto ?_
        refine QH_block_goto ?_
        refine QH_then_goto ?_
        refine QH_then_goto ?_
        refine QH_block_goto ?_
        refine QH_then_goto ?_
        refine QH_ahead ?_
        refine wpC_seq_k (fun K hK269 => ?_)
        refine wpC_skip ?_
        refine QH_seq_k hK269 ?_
        refine wpC_seq_k (fun K hK270 => ?_)
        refine wpC_region ?_
        refine wpS_quick 1 rfl ?_
        refine wpS_nil ?_
        refine QH_seq_k hK270 ?_
        refine wpC_ret ?_
        refine QH_jmp_ret ?_
        refine QH_ret rfl (RV.tmp rfl RV.nil) rfl ?_
        obtain rfl := Option.some.inj H
        replace hS := hS.cut 0
        exact ⟨rfl, hS⟩
      replace H := cond_f H hb
      refine wpS_quick 1 rfl ?_
      refine wpS_put rfl rfl rfl (yv_not rfl) ?_
      refine wpS_quick 1 rfl ?_
      refine wpS_put rfl rfl rfl (yv_fieldAddr fo_66_3 rfl) ?_
      refine wpS_put rfl rfl rfl (yv_load_box sc_3 rfl (RW.here _) hS hs0 trivial sg3_1) ?_
      obtain ⟨r272, hm273, H⟩ := bind_some H
      refine wpS_call rfl rfl rfl rfl (by kernel_rfl) rfl (c_manifest_within e190.count 1 4 _ hm273) ?_
      rintro e w ⟨rfl, hN⟩; refine ⟨_, rfl, ?_⟩; have hB := hN.pure; have hS := hS.join hN; clear hN
      refine wpS_put rfl rfl rfl (yv_not rfl) ?_
      refine wpS_quick 3 rfl ?_
      refine wpS_case 91 rfl (fun hb => ?_) (fun hb => ?_)
      · replace H := cond_t H hb
        refine wpS_quick 9 rfl ?_
        refine wpS_nil ?_
        refine QH_seq_k hK251 ?_
        refine wpC_cond_t rfl rfl ?_
        refine wpC_goto ?_
        refine QH_then_goto ?_
        refine QH_block_goto ?_
        refine QH_then_goto ?_
        refine QH_then_goto ?_
        refine QH_block_goto ?_
        refine QH_then_goto ?_
        refine QH_ahead ?_
        refine wpC_seq_k (fun K hK275 => ?_)
        refine wpC_skip ?_
        refine QH_seq_k hK275 ?_
        refine wpC_seq_k (fun K hK276 => ?_)
        refine wpC_region ?_
        refine wpS_quick 1 rfl ?_
        refine wpS_nil ?_
        refine QH_seq_k hK276 ?_
        refine wpC_ret ?_
        refine QH_jmp_ret ?_
        refine QH_ret rfl (RV.tmp rfl RV.nil) rfl ?_
        obtain rfl := Option.some.inj H
        replace hS := hS.cut 0
        exact ⟨rfl, hS⟩
      replace H := cond_f H hb
      refine wpS_quick 1 rfl ?_
      refine wpS_put rfl rfl rfl (yv_gtr rfl rfl) ?_
      refine wpS_quick 1 rfl ?_
      refine wpS_case 94 rfl (fun hb => ?_) (fun hb => ?_)
      rotate_left
      · replace H := cond_f H hb
        refine wpS_quick 6 rfl ?_
        refine wpS_nil ?_
        refine QH_seq_k hK251 ?_
        refine wpC_cond_f rfl rfl ?_
        refine wpC_skip ?_
        refine QH_seq_k hK250 ?_
        refine wpC_region ?_
        refine wpS_put rfl rfl rfl (yv_fieldAddr fo_66_2 rfl) ?_
        refine wpS_put rfl rfl rfl (yv_load_box sc_3 rfl (RW.here _) hS hs0 trivial sg2_1) ?_
        refine wpS_put rfl rfl rfl (yv_fieldAddr fo_66_3 rfl) ?_
        refine wpS_put rfl rfl rfl (yv_load_box sc_3 rfl (RW.here _) hS hs0 trivial sg3_1) ?_
        refine wpS_put rfl rfl rfl (yx_add rfl rfl) ?_
        refine wpS_quick 1 rfl ?_
        refine wpS_nil ?_
        refine QH_block_normal ?_
        refine QH_seq_k hK188 ?_
        refine wpC_region ?_
        refine wpS_put rfl rfl rfl (yx_add rfl rfl) ?_
        refine wpS_quick 1 rfl ?_
        refine wpS_nil ?_
        exact QH_again (n, (IntKind.wrap .i64 (e190.first + e190.count)), (IntKind.wrap .i64 (v183 + 1)), (updI v184 e190.seq 1)) (by repeat (first | exact Sub.nil | refine Sub.cons rfl ?_)) ⟨(hS.sub (List.Sublist.cons _ (List.Sublist.cons_cons _ (List.Sublist.cons_cons _ (List.Sublist.cons_cons _ List.Sublist.slnil))))), H⟩ (Nat.lt_succ_self _)
      replace H := cond_t H hb
      refine wpS_put rfl rfl rfl (yv_fieldAddr fo_66_2 rfl) ?_
      refine wpS_put rfl rfl rfl (yv_load_box sc_3 rfl (RW.here _) hS hs0 trivial sg2_1) ?_
      refine wpS_quick 1 rfl ?_
      refine wpS_put rfl rfl rfl (yv_neq rfl rfl) ?_
      refine wpS_quick 2 rfl ?_
      refine wpS_nil ?_
      refine QH_seq_k hK251 ?_
      refine wpC_cond rfl (fun hb => ?_) (fun hb => ?_)
      rotate_left
      · replace H := cond_f H hb
        refine wpC_skip ?_
        refine QH_seq_k hK250 ?_
        refine wpC_region ?_
        refine wpS_put rfl rfl rfl (yv_fieldAddr fo_66_2 rfl) ?_
        refine wpS_put rfl rfl rfl (yv_load_box sc_3 rfl (RW.here _) hS hs0 trivial sg2_1) ?_
        refine wpS_put rfl rfl rfl (yv_fieldAddr fo_66_3 rfl) ?_
        refine wpS_put rfl rfl rfl (yv_load_box sc_3 rfl (RW.here _) hS hs0 trivial sg3_1) ?_
        refine wpS_put rfl rfl rfl (yx_add rfl rfl) ?_
        refine wpS_quick 1 rfl ?_
        refine wpS_nil ?_
        refine QH_block_normal ?_
        refine QH_seq_k hK188 ?_
        refine wpC_region ?_
        refine wpS_put rfl rfl rfl (yx_add rfl rfl) ?_
        refine wpS_quick 1 rfl ?_
        refine wpS_nil ?_
        exact QH_again (n, (IntKind.wrap .i64 (e190.first + e190.count)), (IntKind.wrap .i64 (v183 + 1)), (updI v184 e190.seq 1)) (by repeat (first | exact Sub.nil | refine Sub.cons rfl ?_)) ⟨(hS.sub (List.Sublist.cons _ (List.Sublist.cons_cons _ (List.Sublist.cons_cons _ (List.Sublist.cons_cons _ List.Sublist.slnil))))), H⟩ (Nat.lt_succ_self _)
      replace H := cond_t H hb
      refine wpC_goto ?_
      refine QH_then_goto ?_
      refine QH_block_goto ?_
      refine QH_then_goto ?_
      refine QH_then_goto ?_
      refine QH_block_goto ?_
      refine QH_then_goto ?_
      refine QH_ahead ?_
      refine wpC_seq_k (fun K hK280 => ?_)
      refine wpC_skip ?_
      refine QH_seq_k hK280 ?_
      refine wpC_seq_k (fun K hK281 => ?_)
      refine wpC_region ?_
      refine wpS_quick 1 rfl ?_
      refine wpS_nil ?_
      refine QH_seq_k hK281 ?_
      refine wpC_ret ?_
      refine QH_jmp_ret ?_
      refine QH_ret rfl (RV.tmp rfl RV.nil) rfl ?_
      obtain rfl := Option.some.inj H
      replace hS := hS.cut 0
      exact ⟨rfl, hS⟩
    replace H := cond_t H hb
    refine wpS_quick 1 rfl ?_
    refine wpS_put rfl rfl rfl (yv_fieldAddr fo_50_4 rfl) ?_
    refine wpS_put rfl rfl rfl (yv_load_box sc_48 rfl (RW.here _) hS hs3 trivial sg5_1) ?_
    refine wpS_put rfl rfl rfl (yv_len el_48 rfl) ?_
    refine wpS_put rfl rfl rfl (yx_sub rfl rfl) ?_
    refine wpS_put rfl rfl rfl (yv_eql rfl rfl) ?_
    refine wpS_quick 2 rfl ?_
    refine wpS_nil ?_
    refine QH_seq_k hK195 ?_
    refine wpC_seq_k (fun K hK197 => ?_)
    refine wpC_seq_k (fun K hK198 => ?_)
    refine wpC_region ?_
    refine wpS_quick 1 rfl ?_
    refine wpS_put rfl rfl rfl (yv_fieldAddr fo_66_0 rfl) ?_
    refine wpS_put rfl rfl rfl (yv_load_box sc_3 rfl (RW.here _) hS hs0 trivial sg0_1) ?_
    refine wpS_put rfl rfl rfl (yv_fieldAddr fo_66_1 rfl) ?_
    refine wpS_put rfl rfl rfl (yv_load_box sc_3 rfl (RW.here _) hS hs0 trivial sg1_1) ?_
    refine wpS_in rfl rfl rfl rfl (by kernel_rfl) rfl ?_
    show Calls _ _ #[_, _, _, _] _ _
    refine gw_enter4 Tryd.func64 rfl Tryd.ntmps64 rfl ?_
    refine wpC_seq_k (fun K hK199 => ?_)
    refine wpC_region ?_
    refine wpS_quick 1 rfl ?_
    refine wpS_nil ?_
    refine QH_seq_k hK199 ?_
    refine wpC_seq_k (fun K hK200 => ?_)
    refine wpC_region ?_
    refine wpS_quick 1 rfl ?_
    refine wpS_put rfl rfl rfl (yv_fieldAddr fo_50_0 rfl) ?_
    refine wpS_put rfl rfl rfl (yv_load_box sc_3 rfl (RW.here _) hS hs3 trivial sg0_1) ?_
    refine wpS_put rfl rfl rfl (yx_sub rfl rfl) ?_
    obtain ⟨r201, hm202, H⟩ := bind_some H
    refine wpS_call rfl rfl rfl rfl (by kernel_rfl) rfl (c_manifest_within e190.seq 1 (IntKind.wrap .i64 (x0.next - 1)) _ hm202) ?_
    rintro e w ⟨rfl, hN⟩; refine ⟨_, rfl, ?_⟩; have hB := hN.pure; have hS := hS.join hN; clear hN
    refine wpS_quick 1 rfl ?_
    refine wpS_case 13 rfl (fun hb => ?_) (fun hb => ?_)
    rotate_left
    · replace H := cond_f H hb
      refine wpS_quick 10 rfl ?_
      refine wpS_nil ?_
      refine QH_seq_k hK200 ?_
      refine wpC_seq_k (fun K hK245 => ?_)
      refine wpC_region ?_
      refine wpS_put rfl rfl rfl (yv_load_box sc_88 rfl (RW.here _) hS hs1 trivial sg0_1) ?_
      refine wpS_quick 1 rfl ?_
      refine wpS_updI (kt := 3) (e := 3) rfl rfl rfl rfl (by kernel_rfl) (by kernel_rfl) hS ps2 (fun w hS hB => ?_)
      refine wpS_nil ?_
      refine QH_seq_k hK245 ?_
      refine wpC_seq_k (fun K hK246 => ?_)
      refine wpC_region ?_
      refine wpS_quick 2 rfl ?_
      refine wpS_nil ?_
      refine QH_seq_k hK246 ?_
      refine wpC_ret ?_
      refine QH_ret rfl (RV.tmp rfl RV.nil) rfl ?_
      refine ⟨_, rfl, ?_⟩
      refine wpS_put rfl rfl rfl (yv_not rfl) ?_
      refine wpS_quick 26 rfl ?_
      refine wpS_nil ?_
      refine QH_seq_k hK198 ?_
      refine wpC_cond_t rfl rfl ?_
      refine wpC_goto ?_
      refine QH_then_goto ?_
      refine QH_block_goto ?_
      refine QH_then_goto ?_
      refine QH_then_goto ?_
      refine QH_block_goto ?_
      refine QH_then_goto ?_
      refine QH_ahead ?_
      refine wpC_seq_k (fun K hK247 => ?_)
      refine wpC_skip ?_
      refine QH_seq_k hK247 ?_
      refine wpC_seq_k (fun K hK248 => ?_)
      refine wpC_region ?_
      refine wpS_quick 1 rfl ?_
      refine wpS_nil ?_
      refine QH_seq_k hK248 ?_
      refine wpC_ret ?_
      refine QH_jmp_ret ?_
      refine QH_ret rfl (RV.tmp rfl RV.nil) rfl ?_
      obtain rfl := Option.some.inj H
      replace hS := hS.cut 0
      exact ⟨rfl, hS⟩
    replace H := cond_t H hb
    refine wpS_quick 1 rfl ?_
    obtain ⟨r204, hm205, H⟩ := bind_some H
    refine wpS_call rfl rfl rfl rfl (by kernel_rfl) rfl (c_manifest_within e190.fmt 1 2 _ hm205) ?_
    rintro e w ⟨rfl, hN⟩; refine ⟨_, rfl, ?_⟩; have hB := hN.pure; have hS := hS.join hN; clear hN
    refine wpS_quick 2 rfl ?_
    refine wpS_case 17 rfl (fun hb => ?_) (fun hb => ?_)
    rotate_left
    · replace H := cond_f H hb
      refine wpS_quick 6 rfl ?_
      refine wpS_nil ?_
      refine QH_seq_k hK200 ?_
      refine wpC_seq_k (fun K hK240 => ?_)
      refine wpC_region ?_
      refine wpS_put rfl rfl rfl (yv_load_box sc_88 rfl (RW.here _) hS hs1 trivial sg0_1) ?_
      refine wpS_quick 1 rfl ?_
      refine wpS_updI (kt := 3) (e := 3) rfl rfl rfl rfl (by kernel_rfl) (by kernel_rfl) hS ps2 (fun w hS hB => ?_)
      refine wpS_nil ?_
      refine QH_seq_k hK240 ?_
      refine wpC_seq_k (fun K hK241 => ?_)
      refine wpC_region ?_
      refine wpS_quick 2 rfl ?_
      refine wpS_nil ?_
      refine QH_seq_k hK241 ?_
      refine wpC_ret ?_
      refine QH_ret rfl (RV.tmp rfl RV.nil) rfl ?_
      refine ⟨_, rfl, ?_⟩
      refine wpS_put rfl rfl rfl (yv_not rfl) ?_
      refine wpS_quick 26 rfl ?_
      refine wpS_nil ?_
      refine QH_seq_k hK198 ?_
      refine wpC_cond_t rfl rfl ?_
      refine wpC_goto ?_
      refine QH_then_goto ?_
      refine QH_block_goto ?_
      refine QH_then_goto ?_
      refine QH_then_goto ?_
      refine QH_block_goto ?_
      refine QH_then_goto ?_
      refine QH_ahead ?_
      refine wpC_seq_k (fun K hK242 => ?_)
      refine wpC_skip ?_
      refine QH_seq_k hK242 ?_
      refine wpC_seq_k (fun K hK243 => ?_)
      refine wpC_region ?_
      refine wpS_quick 1 rfl ?_
      refine wpS_nil ?_
      refine QH_seq_k hK243 ?_
      refine wpC_ret ?_
      refine QH_jmp_ret ?_
      refine QH_ret rfl (RV.tmp rfl RV.nil) rfl ?_
      obtain rfl := Option.some.inj H
      replace hS := hS.cut 0
      exact ⟨rfl, hS⟩
    replace H := cond_t H hb
    refine wpS_put rfl rfl rfl (yv_load_box sc_88 rfl (RW.here _) hS hs1 trivial sg0_1) ?_
    refine wpS_quick 1 rfl ?_
    refine wpS_put rfl rfl rfl (yv_lookupI (kt := 3) (e := 3) rfl rfl (by kernel_rfl) (by kernel_rfl) (by intro w; kernel_rfl) (RW.here _) hS hs2 trivial) ?_
    refine wpS_put rfl rfl rfl (yv_eql rfl rfl) ?_
    refine wpS_quick 2 rfl ?_
    refine wpS_nil ?_
    refine QH_seq_k hK200 ?_
    refine wpC_seq_k (fun K hK207 => ?_)
    refine wpC_region ?_
    refine wpS_put rfl rfl rfl (yv_load_box sc_88 rfl (RW.here _) hS hs1 trivial sg0_1) ?_
    refine wpS_quick 1 rfl ?_
    refine wpS_updI (kt := 3) (e := 3) rfl rfl rfl rfl (by kernel_rfl) (by kernel_rfl) hS ps2 (fun w hS hB => ?_)
    refine wpS_nil ?_
    refine QH_seq_k hK207 ?_
    refine wpC_seq_k (fun K hK208 => ?_)
    refine wpC_region ?_
    refine wpS_quick 2 rfl ?_
    refine wpS_nil ?_
    refine QH_seq_k hK208 ?_
    refine wpC_ret ?_
    refine QH_ret rfl (RV.tmp rfl RV.nil) rfl ?_
    refine ⟨_, rfl, ?_⟩
    refine wpS_put rfl rfl rfl (yv_not rfl) ?_
    refine wpS_quick 1 rfl ?_
    refine wpS_case 75 rfl (fun hb => ?_) (fun hb => ?_)
    · replace H := cond_t H hb
      refine wpS_quick 25 rfl ?_
      refine wpS_nil ?_
      refine QH_seq_k hK198 ?_
      refine wpC_cond_t rfl rfl ?_
      refine wpC_goto ?_
      refine QH_then_goto ?_
      refine QH_block_goto ?_
      refine QH_then_goto ?_
      refine QH_then_goto ?_
      refine QH_block_goto ?_
      refine QH_then_goto ?_
      refine QH_ahead ?_
      refine wpC_seq_k (fun K hK210 => ?_)
      refine wpC_skip ?_
      refine QH_seq_k hK210 ?_
      refine wpC_seq_k (fun K hK211 => ?_)
      refine wpC_region ?_
      refine wpS_quick 1 rfl ?_
      refine wpS_nil ?_
      refine QH_seq_k hK211 ?_
      refine wpC_ret ?_
      refine QH_jmp_ret ?_
      refine QH_ret rfl (RV.tmp rfl RV.nil) rfl ?_
      obtain rfl := Option.some.inj H
      replace hS := hS.cut 0
      exact ⟨rfl, hS⟩
    replace H := cond_f H hb
    refine wpS_put rfl rfl rfl (yv_fieldAddr fo_66_2 rfl) ?_
    refine wpS_put rfl rfl rfl (yv_load_box sc_3 rfl (RW.here _) hS hs0 trivial sg2_1) ?_
    obtain ⟨r213, hm214, H⟩ := bind_some H
    refine wpS_call rfl rfl rfl rfl (by kernel_rfl) rfl (c_manifest_within e190.first 1 1073741820 _ hm214) ?_
    rintro e w ⟨rfl, hN⟩; refine ⟨_, rfl, ?_⟩; have hB := hN.pure; have hS := hS.join hN; clear hN
    refine wpS_put rfl rfl rfl (yv_not rfl) ?_
    refine wpS_quick 2 rfl ?_
    refine wpS_case 81 rfl (fun hb => ?_) (fun hb => ?_)
    · replace H := cond_t H hb
      refine wpS_quick 19 rfl ?_
      refine wpS_nil ?_
      refine QH_seq_k hK198 ?_
      refine wpC_cond_t rfl rfl ?_
      refine wpC_goto ?_
      refine QH_then_goto ?_
      refine QH_block_goto ?_
      refine QH_then_goto ?_
      refine QH_then_goto ?_
      refine QH_block_goto ?_
      refine QH_then_goto ?_
      refine QH_ahead ?_
      refine wpC_seq_k (fun K hK216 => ?_)
      refine wpC_skip ?_
      refine QH_seq_k hK216 ?_
      refine wpC_seq_k (fun K hK217 => ?_)
      refine wpC_region ?_
      refine wpS_quick 1 rfl ?_
      refine wpS_nil ?_
      refine QH_seq_k hK217 ?_
      refine wpC_ret ?_
      refine QH_jmp_ret ?_
      refine QH_ret rfl (RV.tmp rfl RV.nil) rfl ?_
      obtain rfl := Option.some.inj H
      replace hS := hS.cut 0
      exact ⟨rfl, hS⟩
    replace H := cond_f H hb
    refine wpS_quick 1 rfl ?_
    refine wpS_put rfl rfl rfl (yv_not rfl) ?_
    refine wpS_quick 1 rfl ?_
    refine wpS_case 84 rfl (fun hb => ?_) (fun hb => ?_)
    rotate_left
    · replace H := cond_f H hb
      refine wpS_quick 8 rfl ?_
      refine wpS_put rfl rfl rfl (yv_gtr rfl rfl) ?_
      refine wpS_quick 1 rfl ?_
      refine wpS_case 94 rfl (fun hb => ?_) (fun hb => ?_)
      rotate_left
      · replace H := cond_f H hb
        refine wpS_quick 6 rfl ?_
        refine wpS_nil ?_
        refine QH_seq_k hK198 ?_
        refine wpC_cond_f rfl rfl ?_
        refine wpC_skip ?_
        refine QH_seq_k hK197 ?_
        refine wpC_region ?_
        refine wpS_put rfl rfl rfl (yv_fieldAddr fo_66_2 rfl) ?_
        refine wpS_put rfl rfl rfl (yv_load_box sc_3 rfl (RW.here _) hS hs0 trivial sg2_1) ?_
        refine wpS_put rfl rfl rfl (yv_fieldAddr fo_66_3 rfl) ?_
        refine wpS_put rfl rfl rfl (yv_load_box sc_3 rfl (RW.here _) hS hs0 trivial sg3_1) ?_
        refine wpS_put rfl rfl rfl (yx_add rfl rfl) ?_
        refine wpS_quick 1 rfl ?_
        refine wpS_nil ?_
        refine QH_block_normal ?_
        refine QH_seq_k hK188 ?_
        refine wpC_region ?_
        refine wpS_put rfl rfl rfl (yx_add rfl rfl) ?_
        refine wpS_quick 1 rfl ?_
        refine wpS_nil ?_
        exact QH_again (n, (IntKind.wrap .i64 (e190.first + e190.count)), (IntKind.wrap .i64 (v183 + 1)), (updI v184 e190.seq 1)) (by repeat (first | exact Sub.nil | refine Sub.cons rfl ?_)) ⟨(hS.sub (List.Sublist.cons _ (List.Sublist.cons_cons _ (List.Sublist.cons_cons _ (List.Sublist.cons_cons _ List.Sublist.slnil))))), H⟩ (Nat.lt_succ_self _)
      replace H := cond_t H hb
      refine wpS_put rfl rfl rfl (yv_fieldAddr fo_66_2 rfl) ?_
      refine wpS_put rfl rfl rfl (yv_load_box sc_3 rfl (RW.here _) hS hs0 trivial sg2_1) ?_
      refine wpS_quick 1 rfl ?_
      refine wpS_put rfl rfl rfl (yv_neq rfl rfl) ?_
      refine wpS_quick 2 rfl ?_
      refine wpS_nil ?_
      refine QH_seq_k hK198 ?_
      refine wpC_cond rfl (fun hb => ?_) (fun hb => ?_)
      rotate_left
      · replace H := cond_f H hb
        refine wpC_skip ?_
        refine QH_seq_k hK197 ?_
        refine wpC_region ?_
        refine wpS_put rfl rfl rfl (yv_fieldAddr fo_66_2 rfl) ?_
        refine wpS_put rfl rfl rfl (yv_load_box sc_3 rfl (RW.here _) hS hs0 trivial sg2_1) ?_
        refine wpS_put rfl rfl rfl (yv_fieldAddr fo_66_3 rfl) ?_
        refine wpS_put rfl rfl rfl (yv_load_box sc_3 rfl (RW.here _) hS hs0 trivial sg3_1) ?_
        refine wpS_put rfl rfl rfl (yx_add rfl rfl) ?_
        refine wpS_quick 1 rfl ?_
        refine wpS_nil ?_
        refine QH_block_normal ?_
        refine QH_seq_k hK188 ?_
        refine wpC_region ?_
        refine wpS_put rfl rfl rfl (yx_add rfl rfl) ?_
        refine wpS_quick 1 rfl ?_
        refine wpS_nil ?_
        exact QH_again (n, (IntKind.wrap .i64 (e190.first + e190.count)), (IntKind.wrap .i64 (v183 + 1)), (updI v184 e190.seq 1)) (by repeat (first | exact Sub.nil | refine Sub.cons rfl ?_)) ⟨(hS.sub (List.Sublist.cons _ (List.Sublist.cons_cons _ (List.Sublist.cons_cons _ (List.Sublist.cons_cons _ List.Sublist.slnil))))), H⟩ (Nat.lt_succ_self _)
      replace H := cond_t H hb
      refine wpC_goto ?_
      refine QH_then_goto ?_
      refine QH_block_goto ?_
      refine QH_then_goto ?_
      refine QH_then_goto ?_
      refine QH_block_goto ?_
      refine QH_then_goto ?_
      refine QH_ahead ?_
      refine wpC_seq_k (fun K hK235 => ?_)
      refine wpC_skip ?_
      refine QH_seq_k hK235 ?_
      refine wpC_seq_k (fun K hK236 => ?_)
      refine wpC_region ?_
      refine wpS_quick 1 rfl ?_
      refine wpS_nil ?_
      refine QH_seq_k hK236 ?_
      refine wpC_ret ?_
      refine QH_jmp_ret ?_
      refine QH_ret rfl (RV.tmp rfl RV.nil) rfl ?_
      obtain rfl := Option.some.inj H
      replace hS := hS.cut 0
      exact ⟨rfl, hS⟩
    replace H := cond_t H hb
    refine wpS_put rfl rfl rfl (yv_fieldAddr fo_66_3 rfl) ?_
    refine wpS_put rfl rfl rfl (yv_load_box sc_3 rfl (RW.here _) hS hs0 trivial sg3_1) ?_
    obtain ⟨r220, hm221, H⟩ := bind_some H
    refine wpS_call rfl rfl rfl rfl (by kernel_rfl) rfl (c_manifest_within e190.count 1 4 _ hm221) ?_
    rintro e w ⟨rfl, hN⟩; refine ⟨_, rfl, ?_⟩; have hB := hN.pure; have hS := hS.join hN; clear hN
    refine wpS_put rfl rfl rfl (yv_not rfl) ?_
    refine wpS_quick 3 rfl ?_
    refine wpS_case 91 rfl (fun hb => ?_) (fun hb => ?_)
    · replace H := cond_t H hb
      refine wpS_quick 9 rfl ?_
      refine wpS_nil ?_
      refine QH_seq_k hK198 ?_
      refine wpC_cond_t rfl rfl ?_
      refine wpC_goto ?_
      refine QH_then_goto ?_
      refine QH_block_goto ?_
      refine QH_then_goto ?_
      refine QH_then_goto ?_
      refine QH_block_goto ?_
      refine QH_then_goto ?_
      refine QH_ahead ?_
      refine wpC_seq_k (fun K hK223 => ?_)
      refine wpC_skip ?_
      refine QH_seq_k hK223 ?_
      refine wpC_seq_k (fun K hK224 => ?_)
      refine wpC_region ?_
      refine wpS_quick 1 rfl ?_
      refine wpS_nil ?_
      refine QH_seq_k hK224 ?_
      refine wpC_ret ?_
      refine QH_jmp_ret ?_
      refine QH_ret rfl (RV.tmp rfl RV.nil) rfl ?_
      obtain rfl := Option.some.inj H
      replace hS := hS.cut 0
      exact ⟨rfl, hS⟩
    replace H := cond_f H hb
    refine wpS_quick 1 rfl ?_
    refine wpS_put rfl rfl rfl (yv_gtr rfl rfl) ?_
    refine wpS_quick 1 rfl ?_
    refine wpS_case 94 rfl (fun hb => ?_) (fun hb => ?_)
    rotate_left
    · replace H := cond_f H hb
      refine wpS_quick 6 rfl ?_
      refine wpS_nil ?_
      refine QH_seq_k hK198 ?_
      refine wpC_cond_f rfl rfl ?_
      refine wpC_skip ?_
      refine QH_seq_k hK197 ?_
      refine wpC_region ?_
      refine wpS_put rfl rfl rfl (yv_fieldAddr fo_66_2 rfl) ?_
      refine wpS_put rfl rfl rfl (yv_load_box sc_3 rfl (RW.here _) hS hs0 trivial sg2_1) ?_
      refine wpS_put rfl rfl rfl (yv_fieldAddr fo_66_3 rfl) ?_
      refine wpS_put rfl rfl rfl (yv_load_box sc_3 rfl (RW.here _) hS hs0 trivial sg3_1) ?_
      refine wpS_put rfl rfl rfl (yx_add rfl rfl) ?_
      refine wpS_quick 1 rfl ?_
      refine wpS_nil ?_
      refine QH_block_normal ?_
      refine QH_seq_k hK188 ?_
      refine wpC_region ?_
      refine wpS_put rfl rfl rfl (yx_add rfl rfl) ?_
      refine wpS_quick 1 rfl ?_
      refine wpS_nil ?_
      exact QH_again (n, (IntKind.wrap .i64 (e190.first + e190.count)), (IntKind.wrap .i64 (v183 + 1)), (updI v184 e190.seq 1)) (by repeat (first | exact Sub.nil | refine Sub.cons rfl ?_)) ⟨(hS.sub (List.Sublist.cons _ (List.Sublist.cons_cons _ (List.Sublist.cons_cons _ (List.Sublist.cons_cons _ List.Sublist.slnil))))), H⟩ (Nat.lt_succ_self _)
    replace H := cond_t H hb
    refine wpS_put rfl rfl rfl (yv_fieldAddr fo_66_2 rfl) ?_
    refine wpS_put rfl rfl rfl (yv_load_box sc_3 rfl (RW.here _) hS hs0 trivial sg2_1) ?_
    refine wpS_quick 1 rfl ?_
    refine wpS_put rfl rfl rfl (yv_neq rfl rfl) ?_
    refine wpS_quick 2 rfl ?_
    refine wpS_nil ?_
    refine QH_seq_k hK198 ?_
    refine wpC_cond rfl (fun hb => ?_) (fun hb => ?_)
    rotate_left
    · replace H := cond_f H hb
      refine wpC_skip ?_
      refine QH_seq_k hK197 ?_
      refine wpC_region ?_
      refine wpS_put rfl rfl rfl (yv_fieldAddr fo_66_2 rfl) ?_
      refine wpS_put rfl rfl rfl (yv_load_box sc_3 rfl (RW.here _) hS hs0 trivial sg2_1) ?_
      refine wpS_put rfl rfl rfl (yv_fieldAddr fo_66_3 rfl) ?_
      refine wpS_put rfl rfl rfl (yv_load_box sc_3 rfl (RW.here _) hS hs0 trivial sg3_1) ?_
      refine wpS_put rfl rfl rfl (yx_add rfl rfl) ?_
      refine wpS_quick 1 rfl ?_
      refine wpS_nil ?_
      refine QH_block_normal ?_
      refine QH_seq_k hK188 ?_
      refine wpC_region ?_
      refine wpS_put rfl rfl rfl (yx_add rfl rfl) ?_
      refine wpS_quick 1 rfl ?_
      refine wpS_nil ?_
      exact QH_again (n, (IntKind.wrap .i64 (e190.first + e190.count)), (IntKind.wrap .i64 (v183 + 1)), (updI v184 e190.seq 1)) (by repeat (first | exact Sub.nil | refine Sub.cons rfl ?_)) ⟨(hS.sub (List.Sublist.cons _ (List.Sublist.cons_cons _ (List.Sublist.cons_cons _ (List.Sublist.cons_cons _ List.Sublist.slnil))))), H⟩ (Nat.lt_succ_self _)
    replace H := cond_t H hb
    refine wpC_goto ?_
    refine QH_then_goto ?_
    refine QH_block_goto ?_
    refine QH_then_goto ?_
    refine QH_then_goto ?_
    refine QH_block_goto ?_
    refine QH_then_goto ?_
    refine QH_ahead ?_
    refine wpC_seq_k (fun K hK228 => ?_)
    refine wpC_skip ?_
    refine QH_seq_k hK228 ?_
    refine wpC_seq_k (fun K hK229 => ?_)
    refine wpC_region ?_
    refine wpS_quick 1 rfl ?_
    refine wpS_nil ?_
    refine QH_seq_k hK229 ?_
    refine wpC_ret ?_
    refine QH_jmp_ret ?_
    refine QH_ret rfl (RV.tmp rfl RV.nil) rfl ?_
    obtain rfl := Option.some.inj H
    replace hS := hS.cut 0
    exact ⟨rfl, hS⟩
  replace H := cond_t H hb
  refine wpS_quick 1 rfl ?_
  refine wpS_put rfl rfl rfl (yv_fieldAddr fo_50_3 rfl) ?_
  refine wpS_put rfl rfl rfl (yv_fieldAddr fo_47_0 rfl) ?_
  refine wpS_put rfl rfl rfl (yv_load_box sc_3 rfl (RW.here _) hS hs2 trivial sg3_1) ?_
  refine wpS_put rfl rfl rfl (yv_fieldAddr fo_50_3 rfl) ?_
  refine wpS_put rfl rfl rfl (yv_fieldAddr fo_47_1 rfl) ?_
  refine wpS_put rfl rfl rfl (yv_load_box sc_3 rfl (RW.here _) hS hs2 trivial sg4_1) ?_
  refine wpS_in rfl rfl rfl rfl (by kernel_rfl) rfl ?_
  show Calls _ _ #[_, _, _, _] _ _
  refine gw_enter4 Tryd.func64 rfl Tryd.ntmps64 rfl ?_
  refine wpC_seq_k (fun K hK38 => ?_)
  refine wpC_region ?_
  refine wpS_quick 1 rfl ?_
  refine wpS_nil ?_
  refine QH_seq_k hK38 ?_
  refine wpC_seq_k (fun K hK39 => ?_)
  refine wpC_region ?_
  refine wpS_quick 1 rfl ?_
  refine wpS_put rfl rfl rfl (yv_fieldAddr fo_50_0 rfl) ?_
  refine wpS_put rfl rfl rfl (yv_load_box sc_3 rfl (RW.here _) hS hs2 trivial sg0_1) ?_
  refine wpS_put rfl rfl rfl (yx_sub rfl rfl) ?_
  obtain ⟨r40, hm41, H⟩ := bind_some H
  refine wpS_call rfl rfl rfl rfl (by kernel_rfl) rfl (c_manifest_within x0.snap.seq 1 (IntKind.wrap .i64 (x0.next - 1)) _ hm41) ?_
  rintro e w ⟨rfl, hN⟩; refine ⟨_, rfl, ?_⟩; have hB := hN.pure; have hS := hS.join hN; clear hN
  refine wpS_quick 1 rfl ?_
  refine wpS_case 13 rfl (fun hb => ?_) (fun hb => ?_)
  rotate_left
  · replace H := cond_f H hb
    refine wpS_quick 10 rfl ?_
    refine wpS_nil ?_
    refine QH_seq_k hK39 ?_
    refine wpC_seq_k (fun K hK175 => ?_)
    refine wpC_region ?_
    refine wpS_put rfl rfl rfl (yv_load_box sc_88 rfl (RW.here _) hS hs0 trivial sg0_1) ?_
    refine wpS_quick 1 rfl ?_
    refine wpS_updI (kt := 3) (e := 3) rfl rfl rfl rfl (by kernel_rfl) (by kernel_rfl) hS ps1 (fun w hS hB => ?_)
    refine wpS_nil ?_
    refine QH_seq_k hK175 ?_
    refine wpC_seq_k (fun K hK176 => ?_)
    refine wpC_region ?_
    refine wpS_quick 2 rfl ?_
    refine wpS_nil ?_
    refine QH_seq_k hK176 ?_
    refine wpC_ret ?_
    refine QH_ret rfl (RV.tmp rfl RV.nil) rfl ?_
    refine ⟨_, rfl, ?_⟩
    refine wpS_put rfl rfl rfl (yv_not rfl) ?_
    refine wpS_quick 1 rfl ?_
    refine wpS_nil ?_
    refine QH_seq_k hK36 ?_
    refine wpC_cond_t rfl rfl ?_
    refine wpC_goto ?_
    refine QH_then_goto ?_
    refine QH_ahead ?_
    refine wpC_seq_k (fun K hK177 => ?_)
    refine wpC_skip ?_
    refine QH_seq_k hK177 ?_
    refine wpC_seq_k (fun K hK178 => ?_)
    refine wpC_region ?_
    refine wpS_quick 1 rfl ?_
    refine wpS_nil ?_
    refine QH_seq_k hK178 ?_
    refine wpC_ret ?_
    refine QH_jmp_ret ?_
    refine QH_ret rfl (RV.tmp rfl RV.nil) rfl ?_
    obtain rfl := Option.some.inj H
    replace hS := hS.cut 0
    exact ⟨rfl, hS⟩
  replace H := cond_t H hb
  refine wpS_quick 1 rfl ?_
  obtain ⟨r43, hm44, H⟩ := bind_some H
  refine wpS_call rfl rfl rfl rfl (by kernel_rfl) rfl (c_manifest_within x0.snap.fmt 1 2 _ hm44) ?_
  rintro e w ⟨rfl, hN⟩; refine ⟨_, rfl, ?_⟩; have hB := hN.pure; have hS := hS.join hN; clear hN
  refine wpS_quick 2 rfl ?_
  refine wpS_case 17 rfl (fun hb => ?_) (fun hb => ?_)
  rotate_left
  · replace H := cond_f H hb
    refine wpS_quick 6 rfl ?_
    refine wpS_nil ?_
    refine QH_seq_k hK39 ?_
    refine wpC_seq_k (fun K hK170 => ?_)
    refine wpC_region ?_
    refine wpS_put rfl rfl rfl (yv_load_box sc_88 rfl (RW.here _) hS hs0 trivial sg0_1) ?_
    refine wpS_quick 1 rfl ?_
    refine wpS_updI (kt := 3) (e := 3) rfl rfl rfl rfl (by kernel_rfl) (by kernel_rfl) hS ps1 (fun w hS hB => ?_)
    refine wpS_nil ?_
    refine QH_seq_k hK170 ?_
    refine wpC_seq_k (fun K hK171 => ?_)
    refine wpC_region ?_
    refine wpS_quick 2 rfl ?_
    refine wpS_nil ?_
    refine QH_seq_k hK171 ?_
    refine wpC_ret ?_
    refine QH_ret rfl (RV.tmp rfl RV.nil) rfl ?_
    refine ⟨_, rfl, ?_⟩
    refine wpS_put rfl rfl rfl (yv_not rfl) ?_
    refine wpS_quick 1 rfl ?_
    refine wpS_nil ?_
    refine QH_seq_k hK36 ?_
    refine wpC_cond_t rfl rfl ?_
    refine wpC_goto ?_
    refine QH_then_goto ?_
    refine QH_ahead ?_
    refine wpC_seq_k (fun K hK172 => ?_)
    refine wpC_skip ?_
    refine QH_seq_k hK172 ?_
    refine wpC_seq_k (fun K hK173 => ?_)
    refine wpC_region ?_
    refine wpS_quick 1 rfl ?_
    refine wpS_nil ?_
    refine QH_seq_k hK173 ?_
    refine wpC_ret ?_
    refine QH_jmp_ret ?_
    refine QH_ret rfl (RV.tmp rfl RV.nil) rfl ?_
    obtain rfl := Option.some.inj H
    replace hS := hS.cut 0
    exact ⟨rfl, hS⟩
  replace H := cond_t H hb
  refine wpS_put rfl rfl rfl (yv_load_box sc_88 rfl (RW.here _) hS hs0 trivial sg0_1) ?_
  refine wpS_quick 1 rfl ?_
  refine wpS_put rfl rfl rfl (yv_lookupI (kt := 3) (e := 3) rfl rfl (by kernel_rfl) (by kernel_rfl) (by intro w; kernel_rfl) (RW.here _) hS hs1 trivial) ?_
  refine wpS_put rfl rfl rfl (yv_eql rfl rfl) ?_
  refine wpS_quick 2 rfl ?_
  refine wpS_nil ?_
  refine QH_seq_k hK39 ?_
  refine wpC_seq_k (fun K hK46 => ?_)
  refine wpC_region ?_
  refine wpS_put rfl rfl rfl (yv_load_box sc_88 rfl (RW.here _) hS hs0 trivial sg0_1) ?_
  refine wpS_quick 1 rfl ?_
  refine wpS_updI (kt := 3) (e := 3) rfl rfl rfl rfl (by kernel_rfl) (by kernel_rfl) hS ps1 (fun w hS hB => ?_)
  refine wpS_nil ?_
  refine QH_seq_k hK46 ?_
  refine wpC_seq_k (fun K hK47 => ?_)
  refine wpC_region ?_
  refine wpS_quick 2 rfl ?_
  refine wpS_nil ?_
  refine QH_seq_k hK47 ?_
  refine wpC_ret ?_
  refine QH_ret rfl (RV.tmp rfl RV.nil) rfl ?_
  refine ⟨_, rfl, ?_⟩
  refine wpS_put rfl rfl rfl (yv_not rfl) ?_
  refine wpS_quick 1 rfl ?_
  refine wpS_nil ?_
  refine QH_seq_k hK36 ?_
  refine wpC_cond rfl (fun hb => ?_) (fun hb => ?_)
  · replace H := cond_t H hb
    refine wpC_goto ?_
    refine QH_then_goto ?_
    refine QH_ahead ?_
    refine wpC_seq_k (fun K hK49 => ?_)
    refine wpC_skip ?_
    refine QH_seq_k hK49 ?_
    refine wpC_seq_k (fun K hK50 => ?_)
    refine wpC_region ?_
    refine wpS_quick 1 rfl ?_
    refine wpS_nil ?_
    refine QH_seq_k hK50 ?_
    refine wpC_ret ?_
    refine QH_jmp_ret ?_
    refine QH_ret rfl (RV.tmp rfl RV.nil) rfl ?_
    obtain rfl := Option.some.inj H
    replace hS := hS.cut 0
    exact ⟨rfl, hS⟩
  replace H := cond_f H hb
  refine wpC_skip ?_
  refine QH_seq_k hK35 ?_
  refine wpC_seq_k (fun K hK52 => ?_)
  refine wpC_seq_k (fun K hK53 => ?_)
  refine wpC_region ?_
  refine wpS_put rfl rfl rfl (yv_fieldAddr fo_50_4 rfl) ?_
  refine wpS_put rfl rfl rfl (yv_load_box sc_48 rfl (RW.here _) hS hs2 trivial sg5_1) ?_
  refine wpS_put rfl rfl rfl (yv_len el_48 rfl) ?_
  refine wpS_quick 1 rfl ?_
  refine wpS_nil ?_
  refine QH_seq_k hK53 ?_
  refine wpC_block ?_
  refine wpC_loop (X := Nat × Int × Int × List (Int × Int)) (fun x => (1, .pointer (some ⟨b2, 0, none⟩)) :: (2, .int .i64 0) :: (3, .int .i64 x.2.1) :: (5, .func (.func 64) #[] #[.pointer (some ⟨b2, 0, none⟩), .pointer (some ⟨b8, 0, none⟩)]) :: (50, .slice A0_ x0.segs.length c0_) :: (51, .int .i64 (x0.segs.length : Int)) :: (52, .int .i64 x.2.2.1) :: []) (fun x w => St0 All w0 w (.box b8 [.map (some b6)] 88 :: .obj b6 (mapIO x.2.2.2) :: .box b2 [.int .i64 x0.next, .int .i64 x0.term, .int .i64 x0.vote, .int .i64 x0.snap.seq, .int .i64 x0.snap.fmt, .slice A0_ x0.segs.length c0_] 50 :: []) ∧ m_manifest_Check_l1 x0 x.1 x.2.1 x.2.2.1 x.2.2.2 = some r) (fun x => x.1) (fuelN, 0, 0, (updI (updI [] 0 1) x0.snap.seq 1)) (by repeat (first | exact Sub.nil | refine Sub.cons rfl ?_)) ⟨hS, H⟩ ?_
  rintro ⟨n, v54, v55, v56⟩ w ⟨hS, H⟩
  dsimp only at hS H ⊢
  obtain _ | n := n
  · have H0 : none = some r := H
    cases H0
  rw [m_manifest_Check_l1] at H
  refine wpC_seq_k (fun K hK57 => ?_)
  refine wpC_region ?_
  refine wpS_put rfl rfl rfl (yv_lss rfl rfl) ?_
  refine wpS_nil ?_
  refine QH_seq_k hK57 ?_
  refine wpC_seq_k (fun K hK58 => ?_)
  refine wpC_cond rfl (fun hb => ?_) (fun hb => ?_)
  rotate_left
  · replace H := cond_f H hb
    refine wpC_exit ?_
    refine QH_then_exit ?_
    refine QH_then_exit ?_
    refine QH_block_hit ?_
    refine QH_seq_k hK52 ?_
    refine wpC_seq_k (fun K hK167 => ?_)
    refine wpC_seq_k (fun K hK168 => ?_)
    refine wpC_region ?_
    refine wpS_quick 1 rfl ?_
    refine wpS_nil ?_
    refine QH_seq_k hK168 ?_
    refine wpC_ret ?_
    refine QH_then_ret ?_
    refine QH_jmp_ret ?_
    refine QH_ret rfl (RV.tmp rfl RV.nil) rfl ?_
    obtain rfl := Option.some.inj H
    replace hS := hS.cut 0
    exact ⟨rfl, hS⟩
  replace H := cond_t H hb
  refine wpC_skip ?_
  refine QH_seq_k hK58 ?_
  refine wpC_seq_k (fun K hK60 => ?_)
  refine wpC_block ?_
  refine wpC_seq_k (fun K hK61 => ?_)
  refine wpC_region ?_
  refine wpS_quick 1 rfl ?_
  obtain ⟨e62, hi64, H⟩ := bind_some H
  obtain ⟨j63, hi64a, hi64b, hi64c⟩ := idx_some hi64
  refine wpS_put rfl rfl rfl (yx_idx el_48 rfl rfl hi64a hi64c (Rd.el (hS.rd0 s0_.rd) he_enSg hi64b)) ?_
  refine wpS_put rfl rfl rfl (yx_ldA0 ag_66 rfl (RW.here _) (Rd.el (hS.rd0 s0_.rd) he_enSg hi64b) sg0_4) ?_
  refine wpS_alloc rfl rfl zc_66 hS (fun b65 w hS hB => ?_)
  refine wpS_quick 1 rfl ?_
  refine wpS_store rfl rfl rfl CellsOf.agg hS ps0 st0_4 (by kernel_rfl) rfl (fun w hS hB => ?_)
  refine wpS_nil ?_
  refine QH_seq_k hK61 ?_
  refine wpC_seq_k (fun K hK67 => ?_)
  refine wpC_region ?_
  refine wpS_put rfl rfl rfl (yv_fieldAddr fo_66_3 rfl) ?_
  refine wpS_put rfl rfl rfl (yv_load_box sc_3 rfl (RW.here _) hS hs0 trivial sg3_1) ?_
  refine wpS_put rfl rfl rfl (yv_eql rfl rfl) ?_
  refine wpS_quick 1 rfl ?_
  refine wpS_case 60 rfl (fun hb => ?_) (fun hb => ?_)
  rotate_left
  · replace H := cond_f H hb
    refine wpS_quick 8 rfl ?_
    refine wpS_nil ?_
    refine QH_seq_k hK67 ?_
    refine wpC_seq_k (fun K hK122 => ?_)
    refine wpC_seq_k (fun K hK123 => ?_)
    refine wpC_region ?_
    refine wpS_quick 1 rfl ?_
    refine wpS_put rfl rfl rfl (yv_fieldAddr fo_66_0 rfl) ?_
    refine wpS_put rfl rfl rfl (yv_load_box sc_3 rfl (RW.here _) hS hs0 trivial sg0_1) ?_
    refine wpS_put rfl rfl rfl (yv_fieldAddr fo_66_1 rfl) ?_
    refine wpS_put rfl rfl rfl (yv_load_box sc_3 rfl (RW.here _) hS hs0 trivial sg1_1) ?_
    refine wpS_in rfl rfl rfl rfl (by kernel_rfl) rfl ?_
    show Calls _ _ #[_, _, _, _] _ _
    refine gw_enter4 Tryd.func64 rfl Tryd.ntmps64 rfl ?_
    refine wpC_seq_k (fun K hK124 => ?_)
    refine wpC_region ?_
    refine wpS_quick 1 rfl ?_
    refine wpS_nil ?_
    refine QH_seq_k hK124 ?_
    refine wpC_seq_k (fun K hK125 => ?_)
    refine wpC_region ?_
    refine wpS_quick 1 rfl ?_
    refine wpS_put rfl rfl rfl (yv_fieldAddr fo_50_0 rfl) ?_
    refine wpS_put rfl rfl rfl (yv_load_box sc_3 rfl (RW.here _) hS hs3 trivial sg0_1) ?_
    refine wpS_put rfl rfl rfl (yx_sub rfl rfl) ?_
    obtain ⟨r126, hm127, H⟩ := bind_some H
    refine wpS_call rfl rfl rfl rfl (by kernel_rfl) rfl (c_manifest_within e62.seq 1 (IntKind.wrap .i64 (x0.next - 1)) _ hm127) ?_
    rintro e w ⟨rfl, hN⟩; refine ⟨_, rfl, ?_⟩; have hB := hN.pure; have hS := hS.join hN; clear hN
    refine wpS_quick 1 rfl ?_
    refine wpS_case 13 rfl (fun hb => ?_) (fun hb => ?_)
    rotate_left
    · replace H := cond_f H hb
      refine wpS_quick 10 rfl ?_
      refine wpS_nil ?_
      refine QH_seq_k hK125 ?_
      refine wpC_seq_k (fun K hK162 => ?_)
      refine wpC_region ?_
      refine wpS_put rfl rfl rfl (yv_load_box sc_88 rfl (RW.here _) hS hs1 trivial sg0_1) ?_
      refine wpS_quick 1 rfl ?_
      refine wpS_updI (kt := 3) (e := 3) rfl rfl rfl rfl (by kernel_rfl) (by kernel_rfl) hS ps2 (fun w hS hB => ?_)
      refine wpS_nil ?_
      refine QH_seq_k hK162 ?_
      refine wpC_seq_k (fun K hK163 => ?_)
      refine wpC_region ?_
      refine wpS_quick 2 rfl ?_
      refine wpS_nil ?_
      refine QH_seq_k hK163 ?_
      refine wpC_ret ?_
      refine QH_ret rfl (RV.tmp rfl RV.nil) rfl ?_
      refine ⟨_, rfl, ?_⟩
      refine wpS_put rfl rfl rfl (yv_not rfl) ?_
      refine wpS_quick 26 rfl ?_
      refine wpS_nil ?_
      refine QH_seq_k hK123 ?_
      refine wpC_cond_t rfl rfl ?_
      refine wpC_goto ?_
      refine QH_then_goto ?_
      refine QH_block_goto ?_
      refine QH_then_goto ?_
      refine QH_then_goto ?_
      refine QH_block_goto ?_
      refine QH_then_goto ?_
      refine QH_ahead ?_
      refine wpC_seq_k (fun K hK164 => ?_)
      refine wpC_skip ?_
      refine QH_seq_k hK164 ?_
      refine wpC_seq_k (fun K hK165 => ?_)
      refine wpC_region ?_
      refine wpS_quick 1 rfl ?_
      refine wpS_nil ?_
      refine QH_seq_k hK165 ?_
      refine wpC_ret ?_
      refine QH_jmp_ret ?_
      refine QH_ret rfl (RV.tmp rfl RV.nil) rfl ?_
      obtain rfl := Option.some.inj H
      replace hS := hS.cut 0
      exact ⟨rfl, hS⟩
    replace H := cond_t H hb
    refine wpS_quick 1 rfl ?_
    obtain ⟨r129, hm130, H⟩ := bind_some H
    refine wpS_call rfl rfl rfl rfl (by kernel_rfl) rfl (c_manifest_within e62.fmt 1 2 _ hm130) ?_
    rintro e w ⟨rfl, hN⟩; refine ⟨_, rfl, ?_⟩; have hB := hN.pure; have hS := hS.join hN; clear hN
    refine wpS_quick 2 rfl ?_
    refine wpS_case 17 rfl (fun hb => ?_) (fun hb => ?_)
    rotate_left
    · replace H := cond_f H hb
      refine wpS_quick 6 rfl ?_
      refine wpS_nil ?_
      refine QH_seq_k hK125 ?_
      refine wpC_seq_k (fun K hK157 => ?_)
      refine wpC_region ?_
      refine wpS_put rfl rfl rfl (yv_load_box sc_88 rfl (RW.here _) hS hs1 trivial sg0_1) ?_
      refine wpS_quick 1 rfl ?_
      refine wpS_updI (kt := 3) (e := 3) rfl rfl rfl rfl (by kernel_rfl) (by kernel_rfl) hS ps2 (fun w hS hB => ?_)
      refine wpS_nil ?_
      refine QH_seq_k hK157 ?_
      refine wpC_seq_k (fun K hK158 => ?_)
      refine wpC_region ?_
      refine wpS_quick 2 rfl ?_
      refine wpS_nil ?_
      refine QH_seq_k hK158 ?_
      refine wpC_ret ?_
      refine QH_ret rfl (RV.tmp rfl RV.nil) rfl ?_
      refine ⟨_, rfl, ?_⟩
      refine wpS_put rfl rfl rfl (yv_not rfl) ?_
      refine wpS_quick 26 rfl ?_
      refine wpS_nil ?_
      refine QH_seq_k hK123 ?_
      refine wpC_cond_t rfl rfl ?_
      refine wpC_goto ?_
      refine QH_then_goto ?_
      refine QH_block_goto ?_
      refine QH_then_goto ?_
      refine QH_then_goto ?_
      refine QH_block_goto ?_
      refine QH_then_goto ?_
      refine QH_ahead ?_
      refine wpC_seq_k (fun K hK159 => ?_)
      refine wpC_skip ?_
      refine QH_seq_k hK159 ?_
      refine wpC_seq_k (fun K hK160 => ?_)
      refine wpC_region ?_
      refine wpS_quick 1 rfl ?_
      refine wpS_nil ?_
      refine QH_seq_k hK160 ?_
      refine wpC_ret ?_
      refine QH_jmp_ret ?_
      refine QH_ret rfl (RV.tmp rfl RV.nil) rfl ?_
      obtain rfl := Option.some.inj H
      replace hS := hS.cut 0
      exact ⟨rfl, hS⟩
    replace H := cond_t H hb
    refine wpS_put rfl rfl rfl (yv_load_box sc_88 rfl (RW.here _) hS hs1 trivial sg0_1) ?_
    refine wpS_quick 1 rfl ?_
    refine wpS_put rfl rfl rfl (yv_lookupI (kt := 3) (e := 3) rfl rfl (by kernel_rfl) (by kernel_rfl) (by intro w; kernel_rfl) (RW.here _) hS hs2 trivial) ?_
    refine wpS_put rfl rfl rfl (yv_eql rfl rfl) ?_
    refine wpS_quick 2 rfl ?_
    refine wpS_nil ?_
    refine QH_seq_k hK125 ?_
    refine wpC_seq_k (fun K hK132 => ?_)
    refine wpC_region ?_
    refine wpS_put rfl rfl rfl (yv_load_box sc_88 rfl (RW.here _) hS hs1 trivial sg0_1) ?_
    refine wpS_quick 1 rfl ?_
    refine wpS_updI (kt := 3) (e := 3) rfl rfl rfl rfl (by kernel_rfl) (by kernel_rfl) hS ps2 (fun w hS hB => ?_)
    refine wpS_nil ?_
    refine QH_seq_k hK132 ?_
    refine wpC_seq_k (fun K hK133 => ?_)
    refine wpC_region ?_
    refine wpS_quick 2 rfl ?_
    refine wpS_nil ?_
    refine QH_seq_k hK133 ?_
    refine wpC_ret ?_
    refine QH_ret rfl (RV.tmp rfl RV.nil) rfl ?_
    refine ⟨_, rfl, ?_⟩
    refine wpS_put rfl rfl rfl (yv_not rfl) ?_
    refine wpS_quick 1 rfl ?_
    refine wpS_case 75 rfl (fun hb => ?_) (fun hb => ?_)
    · replace H := cond_t H hb
      refine wpS_quick 25 rfl ?_
      refine wpS_nil ?_
      refine QH_seq_k hK123 ?_
      refine wpC_cond_t rfl rfl ?_
      refine wpC_goto ?_
      refine QH_then_goto ?_
      refine QH_block_goto ?_
      refine QH_then_goto ?_
      refine QH_then_goto ?_
      refine QH_block_goto ?_
      refine QH_then_goto ?_
      refine QH_ahead ?_
      refine wpC_seq_k (fun K hK135 => ?_)
      refine wpC_skip ?_
      refine QH_seq_k hK135 ?_
      refine wpC_seq_k (fun K hK136 => ?_)
      refine wpC_region ?_
      refine wpS_quick 1 rfl ?_
      refine wpS_nil ?_
      refine QH_seq_k hK136 ?_
      refine wpC_ret ?_
      refine QH_jmp_ret ?_
      refine QH_ret rfl (RV.tmp rfl RV.nil) rfl ?_
      obtain rfl := Option.some.inj H
      replace hS := hS.cut 0
      exact ⟨rfl, hS⟩
    replace H := cond_f H hb
    refine wpS_put rfl rfl rfl (yv_fieldAddr fo_66_2 rfl) ?_
    refine wpS_put rfl rfl rfl (yv_load_box sc_3 rfl (RW.here _) hS hs0 trivial sg2_1) ?_
    obtain ⟨r138, hm139, H⟩ := bind_some H
    refine wpS_call rfl rfl rfl rfl (by kernel_rfl) rfl (c_manifest_within e62.first 1 1073741820 _ hm139) ?_
    rintro e w ⟨rfl, hN⟩; refine ⟨_, rfl, ?_⟩; have hB := hN.pure; have hS := hS.join hN; clear hN
    refine wpS_put rfl rfl rfl (yv_not rfl) ?_
    refine wpS_quick 2 rfl ?_
    refine wpS_case 81 rfl (fun hb => ?_) (fun hb => ?_)
    · replace H := cond_t H hb
      refine wpS_quick 19 rfl ?_
      refine wpS_nil ?_
      refine QH_seq_k hK123 ?_
      refine wpC_cond_t rfl rfl ?_
      refine wpC_goto ?_
      refine QH_then_goto ?_
      refine QH_block_goto ?_
      refine QH_then_goto ?_
      refine QH_then_goto ?_
      refine QH_block_goto ?_
      refine QH_then_goto ?_
      refine QH_ahead ?_
      refine wpC_seq_k (fun K hK141 => ?_)
      refine wpC_skip ?_
      refine QH_seq_k hK141 ?_
      refine wpC_seq_k (fun K hK142 => ?_)
      refine wpC_region ?_
      refine wpS_quick 1 rfl ?_
      refine wpS_nil ?_
      refine QH_seq_k hK142 ?_
      refine wpC_ret ?_
      refine QH_jmp_ret ?_
      refine QH_ret rfl (RV.tmp rfl RV.nil) rfl ?_
      obtain rfl := Option.some.inj H
      replace hS := hS.cut 0
      exact ⟨rfl, hS⟩
    replace H := cond_f H hb
    refine wpS_quick 1 rfl ?_
    refine wpS_put rfl rfl rfl (yv_not rfl) ?_
    refine wpS_quick 1 rfl ?_
    refine wpS_put rfl rfl rfl (yv_fieldAddr fo_66_3 rfl) ?_
    refine wpS_put rfl rfl rfl (yv_load_box sc_3 rfl (RW.here _) hS hs0 trivial sg3_1) ?_
    obtain ⟨r144, hm145, H⟩ := bind_some H
    refine wpS_call rfl rfl rfl rfl (by kernel_rfl) rfl (c_manifest_within e62.count 1 4 _ hm145) ?_
    rintro e w ⟨rfl, hN⟩; refine ⟨_, rfl, ?_⟩; have hB := hN.pure; have hS := hS.join hN; clear hN
    refine wpS_put rfl rfl rfl (yv_not rfl) ?_
    refine wpS_quick 3 rfl ?_
    refine wpS_case 91 rfl (fun hb => ?_) (fun hb => ?_)
    · replace H := cond_t H hb
      refine wpS_quick 9 rfl ?_
      refine wpS_nil ?_
      refine QH_seq_k hK123 ?_
      refine wpC_cond_t rfl rfl ?_
      refine wpC_goto ?_
      refine QH_then_goto ?_
      refine QH_block_goto ?_
      refine QH_then_goto ?_
      refine QH_then_goto ?_
      refine QH_block_goto ?_
      refine QH_then_goto ?_
      refine QH_ahead ?_
      refine wpC_seq_k (fun K hK147 => ?_)
      refine wpC_skip ?_
      refine QH_seq_k hK147 ?_
      refine wpC_seq_k (fun K hK148 => ?_)
      refine wpC_region ?_
      refine wpS_quick 1 rfl ?_
      refine wpS_nil ?_
      refine QH_seq_k hK148 ?_
      refine wpC_ret ?_
      refine QH_jmp_ret ?_
      refine QH_ret rfl (RV.tmp rfl RV.nil) rfl ?_
      obtain rfl := Option.some.inj H
      replace hS := hS.cut 0
      exact ⟨rfl, hS⟩
    replace H := cond_f H hb
    refine wpS_quick 1 rfl ?_
    refine wpS_put rfl rfl rfl (yv_gtr rfl rfl) ?_
    refine wpS_quick 1 rfl ?_
    refine wpS_case 94 rfl (fun hb => ?_) (fun hb => ?_)
    rotate_left
    · replace H := cond_f H hb
      refine wpS_quick 6 rfl ?_
      refine wpS_nil ?_
      refine QH_seq_k hK123 ?_
      refine wpC_cond_f rfl rfl ?_
      refine wpC_skip ?_
      refine QH_seq_k hK122 ?_
      refine wpC_region ?_
      refine wpS_put rfl rfl rfl (yv_fieldAddr fo_66_2 rfl) ?_
      refine wpS_put rfl rfl rfl (yv_load_box sc_3 rfl (RW.here _) hS hs0 trivial sg2_1) ?_
      refine wpS_put rfl rfl rfl (yv_fieldAddr fo_66_3 rfl) ?_
      refine wpS_put rfl rfl rfl (yv_load_box sc_3 rfl (RW.here _) hS hs0 trivial sg3_1) ?_
      refine wpS_put rfl rfl rfl (yx_add rfl rfl) ?_
      refine wpS_quick 1 rfl ?_
      refine wpS_nil ?_
      refine QH_block_normal ?_
      refine QH_seq_k hK60 ?_
      refine wpC_region ?_
      refine wpS_put rfl rfl rfl (yx_add rfl rfl) ?_
      refine wpS_quick 1 rfl ?_
      refine wpS_nil ?_
      exact QH_again (n, (IntKind.wrap .i64 (e62.first + e62.count)), (IntKind.wrap .i64 (v55 + 1)), (updI v56 e62.seq 1)) (by repeat (first | exact Sub.nil | refine Sub.cons rfl ?_)) ⟨(hS.sub (List.Sublist.cons _ (List.Sublist.cons_cons _ (List.Sublist.cons_cons _ (List.Sublist.cons_cons _ List.Sublist.slnil))))), H⟩ (Nat.lt_succ_self _)
    replace H := cond_t H hb
    refine wpS_put rfl rfl rfl (yv_fieldAddr fo_66_2 rfl) ?_
    refine wpS_put rfl rfl rfl (yv_load_box sc_3 rfl (RW.here _) hS hs0 trivial sg2_1) ?_
    refine wpS_quick 1 rfl ?_
    refine wpS_put rfl rfl rfl (yv_neq rfl rfl) ?_
    refine wpS_quick 2 rfl ?_
    refine wpS_nil ?_
    refine QH_seq_k hK123 ?_
    refine wpC_cond rfl (fun hb => ?_) (fun hb => ?_)
    rotate_left
    · replace H := cond_f H hb
      refine wpC_skip ?_
      refine QH_seq_k hK122 ?_
      refine wpC_region ?_
      refine wpS_put rfl rfl rfl (yv_fieldAddr fo_66_2 rfl) ?_
      refine wpS_put rfl rfl rfl (yv_load_box sc_3 rfl (RW.here _) hS hs0 trivial sg2_1) ?_
      refine wpS_put rfl rfl rfl (yv_fieldAddr fo_66_3 rfl) ?_
      refine wpS_put rfl rfl rfl (yv_load_box sc_3 rfl (RW.here _) hS hs0 trivial sg3_1) ?_
      refine wpS_put rfl rfl rfl (yx_add rfl rfl) ?_
      refine wpS_quick 1 rfl ?_
      refine wpS_nil ?_
      refine QH_block_normal ?_
      refine QH_seq_k hK60 ?_
      refine wpC_region ?_
      refine wpS_put rfl rfl rfl (yx_add rfl rfl) ?_
      refine wpS_quick 1 rfl ?_
      refine wpS_nil ?_
      exact QH_again (n, (IntKind.wrap .i64 (e62.first + e62.count)), (IntKind.wrap .i64 (v55 + 1)), (updI v56 e62.seq 1)) (by repeat (first | exact Sub.nil | refine Sub.cons rfl ?_)) ⟨(hS.sub (List.Sublist.cons _ (List.Sublist.cons_cons _ (List.Sublist.cons_cons _ (List.Sublist.cons_cons _ List.Sublist.slnil))))), H⟩ (Nat.lt_succ_self _)
    replace H := cond_t H hb
    refine wpC_goto ?_
    refine QH_then_goto ?_
    refine QH_block_goto ?_
    refine QH_then_goto ?_
    refine QH_then_goto ?_
    refine QH_block_goto ?_
    refine QH_then_goto ?_
    refine QH_ahead ?_
    refine wpC_seq_k (fun K hK152 => ?_)
    refine wpC_skip ?_
    refine QH_seq_k hK152 ?_
    refine wpC_seq_k (fun K hK153 => ?_)
    refine wpC_region ?_
    refine wpS_quick 1 rfl ?_
    refine wpS_nil ?_
    refine QH_seq_k hK153 ?_
    refine wpC_ret ?_
    refine QH_jmp_ret ?_
    refine QH_ret rfl (RV.tmp rfl RV.nil) rfl ?_
    obtain rfl := Option.some.inj H
    replace hS := hS.cut 0
    exact ⟨rfl, hS⟩
  replace H := cond_t H hb
  refine wpS_quick 1 rfl ?_
  refine wpS_put rfl rfl rfl (yv_fieldAddr fo_50_4 rfl) ?_
  refine wpS_put rfl rfl rfl (yv_load_box sc_48 rfl (RW.here _) hS hs3 trivial sg5_1) ?_
  refine wpS_put rfl rfl rfl (yv_len el_48 rfl) ?_
  refine wpS_put rfl rfl rfl (yx_sub rfl rfl) ?_
  refine wpS_put rfl rfl rfl (yv_eql rfl rfl) ?_
  refine wpS_quick 2 rfl ?_
  refine wpS_nil ?_
  refine QH_seq_k hK67 ?_
  refine wpC_seq_k (fun K hK69 => ?_)
  refine wpC_seq_k (fun K hK70 => ?_)
  refine wpC_region ?_
  refine wpS_quick 1 rfl ?_
  refine wpS_put rfl rfl rfl (yv_fieldAddr fo_66_0 rfl) ?_
  refine wpS_put rfl rfl rfl (yv_load_box sc_3 rfl (RW.here _) hS hs0 trivial sg0_1) ?_
  refine wpS_put rfl rfl rfl (yv_fieldAddr fo_66_1 rfl) ?_
  refine wpS_put rfl rfl rfl (yv_load_box sc_3 rfl (RW.here _) hS hs0 trivial sg1_1) ?_
  refine wpS_in rfl rfl rfl rfl (by kernel_rfl) rfl ?_
  show Calls _ _ #[_, _, _, _] _ _
  refine gw_enter4 Tryd.func64 rfl Tryd.ntmps64 rfl ?_
  refine wpC_seq_k (fun K hK71 => ?_)
  refine wpC_region ?_
  refine wpS_quick 1 rfl ?_
  refine wpS_nil ?_
  refine QH_seq_k hK71 ?_
  refine wpC_seq_k (fun K hK72 => ?_)
  refine wpC_region ?_
  refine wpS_quick 1 rfl ?_
  refine wpS_put rfl rfl rfl (yv_fieldAddr fo_50_0 rfl) ?_
  refine wpS_put rfl rfl rfl (yv_load_box sc_3 rfl (RW.here _) hS hs3 trivial sg0_1) ?_
  refine wpS_put rfl rfl rfl (yx_sub rfl rfl) ?_
  obtain ⟨r73, hm74, H⟩ := bind_some H
  refine wpS_call rfl rfl rfl rfl (by kernel_rfl) rfl (c_manifest_within e62.seq 1 (IntKind.wrap .i64 (x0.next - 1)) _ hm74) ?_
  rintro e w ⟨rfl, hN⟩; refine ⟨_, rfl, ?_⟩; have hB := hN.pure; have hS := hS.join hN; clear hN
  refine wpS_quick 1 rfl ?_
  refine wpS_case 13 rfl (fun hb => ?_) (fun hb => ?_)
  rotate_left
  · replace H := cond_f H hb
    refine wpS_quick 10 rfl ?_
    refine wpS_nil ?_
    refine QH_seq_k hK72 ?_
    refine wpC_seq_k (fun K hK117 => ?_)
    refine wpC_region ?_
    refine wpS_put rfl rfl rfl (yv_load_box sc_88 rfl (RW.here _) hS hs1 trivial sg0_1) ?_
    refine wpS_quick 1 rfl ?_
    refine wpS_updI (kt := 3) (e := 3) rfl rfl rfl rfl (by kernel_rfl) (by kernel_rfl) hS ps2 (fun w hS hB => ?_)
    refine wpS_nil ?_
    refine QH_seq_k hK117 ?_
    refine wpC_seq_k (fun K hK118 => ?_)
    refine wpC_region ?_
    refine wpS_quick 2 rfl ?_
    refine wpS_nil ?_
    refine QH_seq_k hK118 ?_
    refine wpC_ret ?_
    refine QH_ret rfl (RV.tmp rfl RV.nil) rfl ?_
    refine ⟨_, rfl, ?_⟩
    refine wpS_put rfl rfl rfl (yv_not rfl) ?_
    refine wpS_quick 26 rfl ?_
    refine wpS_nil ?_
    refine QH_seq_k hK70 ?_
    refine wpC_cond_t rfl rfl ?_
    refine wpC_goto ?_
    refine QH_then_goto ?_
    refine QH_block_goto ?_
    refine QH_then_goto ?_
    refine QH_then_goto ?_
    refine QH_block_goto ?_
    refine QH_then_goto ?_
    refine QH_ahead ?_
    refine wpC_seq_k (fun K hK119 => ?_)
    refine wpC_skip ?_
    refine QH_seq_k hK119 ?_
    refine wpC_seq_k (fun K hK120 => ?_)
    refine wpC_region ?_
    refine wpS_quick 1 rfl ?_
    refine wpS_nil ?_
    refine QH_seq_k hK120 ?_
    refine wpC_ret ?_
    refine QH_jmp_ret ?_
    refine QH_ret rfl (RV.tmp rfl RV.nil) rfl ?_
    obtain rfl := Option.some.inj H
    replace hS := hS.cut 0
    exact ⟨rfl, hS⟩
  replace H := cond_t H hb
  refine wpS_quick 1 rfl ?_
  obtain ⟨r76, hm77, H⟩ := bind_some H
  refine wpS_call rfl rfl rfl rfl (by kernel_rfl) rfl (c_manifest_within e62.fmt 1 2 _ hm77) ?_
  rintro e w ⟨rfl, hN⟩; refine ⟨_, rfl, ?_⟩; have hB := hN.pure; have hS := hS.join hN; clear hN
  refine wpS_quick 2 rfl ?_
  refine wpS_case 17 rfl (fun hb => ?_) (fun hb => ?_)
  rotate_left
  · replace H := cond_f H hb
    refine wpS_quick 6 rfl ?_
    refine wpS_nil ?_
    refine QH_seq_k hK72 ?_
    refine wpC_seq_k (fun K hK112 => ?_)
    refine wpC_region ?_
    refine wpS_put rfl rfl rfl (yv_load_box sc_88 rfl (RW.here _) hS hs1 trivial sg0_1) ?_
    refine wpS_quick 1 rfl ?_
    refine wpS_updI (kt := 3) (e := 3) rfl rfl rfl rfl (by kernel_rfl) (by kernel_rfl) hS ps2 (fun w hS hB => ?_)
    refine wpS_nil ?_
    refine QH_seq_k hK112 ?_
    refine wpC_seq_k (fun K hK113 => ?_)
    refine wpC_region ?_
    refine wpS_quick 2 rfl ?_
    refine wpS_nil ?_
    refine QH_seq_k hK113 ?_
    refine wpC_ret ?_
    refine QH_ret rfl (RV.tmp rfl RV.nil) rfl ?_
    refine ⟨_, rfl, ?_⟩
    refine wpS_put rfl rfl rfl (yv_not rfl) ?_
    refine wpS_quick 26 rfl ?_
    refine wpS_nil ?_
    refine QH_seq_k hK70 ?_
    refine wpC_cond_t rfl rfl ?_
    refine wpC_goto ?_
    refine QH_then_goto ?_
    refine QH_block_goto ?_
    refine QH_then_goto ?_
    refine QH_then_goto ?_
    refine QH_block_goto ?_
    refine QH_then_goto ?_
    refine QH_ahead ?_
    refine wpC_seq_k (fun K hK114 => ?_)
    refine wpC_skip ?_
    refine QH_seq_k hK114 ?_
    refine wpC_seq_k (fun K hK115 => ?_)
    refine wpC_region ?_
    refine wpS_quick 1 rfl ?_
    refine wpS_nil ?_
    refine QH_seq_k hK115 ?_
    refine wpC_ret ?_
    refine QH_jmp_ret ?_
    refine QH_ret rfl (RV.tmp rfl RV.nil) rfl ?_
    obtain rfl := Option.some.inj H
    replace hS := hS.cut 0
    exact ⟨rfl, hS⟩
  replace H := cond_t H hb
  refine wpS_put rfl rfl rfl (yv_load_box sc_88 rfl (RW.here _) hS hs1 trivial sg0_1) ?_
  refine wpS_quick 1 rfl ?_
  refine wpS_put rfl rfl rfl (yv_lookupI (kt := 3) (e := 3) rfl rfl (by kernel_rfl) (by kernel_rfl) (by intro w; kernel_rfl) (RW.here _) hS hs2 trivial) ?_
  refine wpS_put rfl rfl rfl (yv_eql rfl rfl) ?_
  refine wpS_quick 2 rfl ?_
  refine wpS_nil ?_
  refine QH_seq_k hK72 ?_
  refine wpC_seq_k (fun K hK79 => ?_)
  refine wpC_region ?_
  refine wpS_put rfl rfl rfl (yv_load_box sc_88 rfl (RW.here _) hS hs1 trivial sg0_1) ?_
  refine wpS_quick 1 rfl ?_
  refine wpS_updI (kt := 3) (e := 3) rfl rfl rfl rfl (by kernel_rfl) (by kernel_rfl) hS ps2 (fun w hS hB => ?_)
  refine wpS_nil ?_
  refine QH_seq_k hK79 ?_
  refine wpC_seq_k (fun K hK80 => ?_)
  refine wpC_region ?_
  refine wpS_quick 2 rfl ?_
  refine wpS_nil ?_
  refine QH_seq_k hK80 ?_
  refine wpC_ret ?_
  refine QH_ret rfl (RV.tmp rfl RV.nil) rfl ?_
  refine ⟨_, rfl, ?_⟩
  refine wpS_put rfl rfl rfl (yv_not rfl) ?_
  refine wpS_quick 1 rfl ?_
  refine wpS_case 75 rfl (fun hb => ?_) (fun hb => ?_)
  · replace H := cond_t H hb
    refine wpS_quick 25 rfl ?_
    refine wpS_nil ?_
    refine QH_seq_k hK70 ?_
    refine wpC_cond_t rfl rfl ?_
    refine wpC_goto ?_
    refine QH_then_goto ?_
    refine QH_block_goto ?_
    refine QH_then_goto ?_
    refine QH_then_goto ?_
    refine QH_block_goto ?_
    refine QH_then_goto ?_
    refine QH_ahead ?_
    refine wpC_seq_k (fun K hK82 => ?_)
    refine wpC_skip ?_
    refine QH_seq_k hK82 ?_
    refine wpC_seq_k (fun K hK83 => ?_)
    refine wpC_region ?_
    refine wpS_quick 1 rfl ?_
    refine wpS_nil ?_
    refine QH_seq_k hK83 ?_
    refine wpC_ret ?_
    refine QH_jmp_ret ?_
    refine QH_ret rfl (RV.tmp rfl RV.nil) rfl ?_
    obtain rfl := Option.some.inj H
    replace hS := hS.cut 0
    exact ⟨rfl, hS⟩
  replace H := cond_f H hb
  refine wpS_put rfl rfl rfl (yv_fieldAddr fo_66_2 rfl) ?_
  refine wpS_put rfl rfl rfl (yv_load_box sc_3 rfl (RW.here _) hS hs0 trivial sg2_1) ?_
  obtain ⟨r85, hm86, H⟩ := bind_some H
  refine wpS_call rfl rfl rfl rfl (by kernel_rfl) rfl (c_manifest_within e62.first 1 1073741820 _ hm86) ?_
  rintro e w ⟨rfl, hN⟩; refine ⟨_, rfl, ?_⟩; have hB := hN.pure; have hS := hS.join hN; clear hN
  refine wpS_put rfl rfl rfl (yv_not rfl) ?_
  refine wpS_quick 2 rfl ?_
  refine wpS_case 81 rfl (fun hb => ?_) (fun hb => ?_)
  · replace H := cond_t H hb
    refine wpS_quick 19 rfl ?_
    refine wpS_nil ?_
    refine QH_seq_k hK70 ?_
    refine wpC_cond_t rfl rfl ?_
    refine wpC_goto ?_
    refine QH_then_goto ?_
    refine QH_block_goto ?_
    refine QH_then_goto ?_
    refine QH_then_goto ?_
    refine QH_block_goto ?_
    refine QH_then_goto ?_
    refine QH_ahead ?_
    refine wpC_seq_k (fun K hK88 => ?_)
    refine wpC_skip ?_
    refine QH_seq_k hK88 ?_
    refine wpC_seq_k (fun K hK89 => ?_)
    refine wpC_region ?_
    refine wpS_quick 1 rfl ?_
    refine wpS_nil ?_
    refine QH_seq_k hK89 ?_
    refine wpC_ret ?_
    refine QH_jmp_ret ?_
    refine QH_ret rfl (RV.tmp rfl RV.nil) rfl ?_
    obtain rfl := Option.some.inj H
    replace hS := hS.cut 0
    exact ⟨rfl, hS⟩
  replace H := cond_f H hb
  refine wpS_quick 1 rfl ?_
  refine wpS_put rfl rfl rfl (yv_not rfl) ?_
  refine wpS_quick 1 rfl ?_
  refine wpS_case 84 rfl (fun hb => ?_) (fun hb => ?_)
  rotate_left
  · replace H := cond_f H hb
    refine wpS_quick 8 rfl ?_
    refine wpS_put rfl rfl rfl (yv_gtr rfl rfl) ?_
    refine wpS_quick 1 rfl ?_
    refine wpS_case 94 rfl (fun hb => ?_) (fun hb => ?_)
    rotate_left
    · replace H := cond_f H hb
      refine wpS_quick 6 rfl ?_
      refine wpS_nil ?_
      refine QH_seq_k hK70 ?_
      refine wpC_cond_f rfl rfl ?_
      refine wpC_skip ?_
      refine QH_seq_k hK69 ?_
      refine wpC_region ?_
      refine wpS_put rfl rfl rfl (yv_fieldAddr fo_66_2 rfl) ?_
      refine wpS_put rfl rfl rfl (yv_load_box sc_3 rfl (RW.here _) hS hs0 trivial sg2_1) ?_
      refine wpS_put rfl rfl rfl (yv_fieldAddr fo_66_3 rfl) ?_
      refine wpS_put rfl rfl rfl (yv_load_box sc_3 rfl (RW.here _) hS hs0 trivial sg3_1) ?_
      refine wpS_put rfl rfl rfl (yx_add rfl rfl) ?_
      refine wpS_quick 1 rfl ?_
      refine wpS_nil ?_
      refine QH_block_normal ?_
      refine QH_seq_k hK60 ?_
      refine wpC_region ?_
      refine wpS_put rfl rfl rfl (yx_add rfl rfl) ?_
      refine wpS_quick 1 rfl ?_
      refine wpS_nil ?_
      exact QH_again (n, (IntKind.wrap .i64 (e62.first + e62.count)), (IntKind.wrap .i64 (v55 + 1)), (updI v56 e62.seq 1)) (by repeat (first | exact Sub.nil | refine Sub.cons rfl ?_)) ⟨(hS.sub (List.Sublist.cons _ (List.Sublist.cons_cons _ (List.Sublist.cons_cons _ (List.Sublist.cons_cons _ List.Sublist.slnil))))), H⟩ (Nat.lt_succ_self _)
    replace H := cond_t H hb
    refine wpS_put rfl rfl rfl (yv_fieldAddr fo_66_2 rfl) ?_
    refine wpS_put rfl rfl rfl (yv_load_box sc_3 rfl (RW.here _) hS hs0 trivial sg2_1) ?_
    refine wpS_quick 1 rfl ?_
    refine wpS_put rfl rfl rfl (yv_neq rfl rfl) ?_
    refine wpS_quick 2 rfl ?_
    refine wpS_nil ?_
    refine QH_seq_k hK70 ?_
    refine wpC_cond rfl (fun hb => ?_) (fun hb => ?_)
    rotate_left
    · replace H := cond_f H hb
      refine wpC_skip ?_
      refine QH_seq_k hK69 ?_
      refine wpC_region ?_
      refine wpS_put rfl rfl rfl (yv_fieldAddr fo_66_2 rfl) ?_
      refine wpS_put rfl rfl rfl (yv_load_box sc_3 rfl (RW.here _) hS hs0 trivial sg2_1) ?_
      refine wpS_put rfl rfl rfl (yv_fieldAddr fo_66_3 rfl) ?_
      refine wpS_put rfl rfl rfl (yv_load_box sc_3 rfl (RW.here _) hS hs0 trivial sg3_1) ?_
      refine wpS_put rfl rfl rfl (yx_add rfl rfl) ?_
      refine wpS_quick 1 rfl ?_
      refine wpS_nil ?_
      refine QH_block_normal ?_
      refine QH_seq_k hK60 ?_
      refine wpC_region ?_
      refine wpS_put rfl rfl rfl (yx_add rfl rfl) ?_
      refine wpS_quick 1 rfl ?_
      refine wpS_nil ?_
      exact QH_again (n, (IntKind.wrap .i64 (e62.first + e62.count)), (IntKind.wrap .i64 (v55 + 1)), (updI v56 e62.seq 1)) (by repeat (first | exact Sub.nil | refine Sub.cons rfl ?_)) ⟨(hS.sub (List.Sublist.cons _ (List.Sublist.cons_cons _ (List.Sublist.cons_cons _ (List.Sublist.cons_cons _ List.Sublist.slnil))))), H⟩ (Nat.lt_succ_self _)
    replace H := cond_t H hb
    refine wpC_goto ?_
    refine QH_then_goto ?_
    refine QH_block_goto ?_
    refine QH_then_goto ?_
    refine QH_then_goto ?_
    refine QH_block_goto ?_
    refine QH_then_goto ?_
    refine QH_ahead ?_
    refine wpC_seq_k (fun K hK107 => ?_)
    refine wpC_skip ?_
    refine QH_seq_k hK107 ?_
    refine wpC_seq_k (fun K hK108 => ?_)
    refine wpC_region ?_
    refine wpS_quick 1 rfl ?_
    refine wpS_nil ?_
    refine QH_seq_k hK108 ?_
    refine wpC_ret ?_
    refine QH_jmp_ret ?_
    refine QH_ret rfl (RV.tmp rfl RV.nil) rfl ?_
    obtain rfl := Option.some.inj H
    replace hS := hS.cut 0
    exact ⟨rfl, hS⟩
  replace H := cond_t H hb
  refine wpS_put rfl rfl rfl (yv_fieldAddr fo_66_3 rfl) ?_
  refine wpS_put rfl rfl rfl (yv_load_box sc_3 rfl (RW.here _) hS hs0 trivial sg3_1) ?_
  obtain ⟨r92, hm93, H⟩ := bind_some H
  refine wpS_call rfl rfl rfl rfl (by kernel_rfl) rfl (c_manifest_within e62.count 1 4 _ hm93) ?_
  rintro e w ⟨rfl, hN⟩; refine ⟨_, rfl, ?_⟩; have hB := hN.pure; have hS := hS.join hN; clear hN
  refine wpS_put rfl rfl rfl (yv_not rfl) ?_
  refine wpS_quick 3 rfl ?_
  refine wpS_case 91 rfl (fun hb => ?_) (fun hb => ?_)
  · replace H := cond_t H hb
    refine wpS_quick 9 rfl ?_
    refine wpS_nil ?_
    refine QH_seq_k hK70 ?_
    refine wpC_cond_t rfl rfl ?_
    refine wpC_goto ?_
    refine QH_then_goto ?_
    refine QH_block_goto ?_
    refine QH_then_goto ?_
    refine QH_then_goto ?_
    refine QH_block_goto ?_
    refine QH_then_goto ?_
    refine QH_ahead ?_
    refine wpC_seq_k (fun K hK95 => ?_)
    refine wpC_skip ?_
    refine QH_seq_k hK95 ?_
    refine wpC_seq_k (fun K hK96 => ?_)
    refine wpC_region ?_
    refine wpS_quick 1 rfl ?_
    refine wpS_nil ?_
    refine QH_seq_k hK96 ?_
    refine wpC_ret ?_
    refine QH_jmp_ret ?_
    refine QH_ret rfl (RV.tmp rfl RV.nil) rfl ?_
    obtain rfl := Option.some.inj H
    replace hS := hS.cut 0
    exact ⟨rfl, hS⟩
  replace H := cond_f H hb
  refine wpS_quick 1 rfl ?_
  refine wpS_put rfl rfl rfl (yv_gtr rfl rfl) ?_
  refine wpS_quick 1 rfl ?_
  refine wpS_case 94 rfl (fun hb => ?_) (fun hb => ?_)
  rotate_left
  · replace H := cond_f H hb
    refine wpS_quick 6 rfl ?_
    refine wpS_nil ?_
    refine QH_seq_k hK70 ?_
    refine wpC_cond_f rfl rfl ?_
    refine wpC_skip ?_
    refine QH_seq_k hK69 ?_
    refine wpC_region ?_
    refine wpS_put rfl rfl rfl (yv_fieldAddr fo_66_2 rfl) ?_
    refine wpS_put rfl rfl rfl (yv_load_box sc_3 rfl (RW.here _) hS hs0 trivial sg2_1) ?_
    refine wpS_put rfl rfl rfl (yv_fieldAddr fo_66_3 rfl) ?_
    refine wpS_put rfl rfl rfl (yv_load_box sc_3 rfl (RW.here _) hS hs0 trivial sg3_1) ?_
    refine wpS_put rfl rfl rfl (yx_add rfl rfl) ?_
    refine wpS_quick 1 rfl ?_
    refine wpS_nil ?_
    refine QH_block_normal ?_
    refine QH_seq_k hK60 ?_
    refine wpC_region ?_
    refine wpS_put rfl rfl rfl (yx_add rfl rfl) ?_
    refine wpS_quick 1 rfl ?_
    refine wpS_nil ?_
    exact QH_again (n, (IntKind.wrap .i64 (e62.first + e62.count)), (IntKind.wrap .i64 (v55 + 1)), (updI v56 e62.seq 1)) (by repeat (first | exact Sub.nil | refine Sub.cons rfl ?_)) ⟨(hS.sub (List.Sublist.cons _ (List.Sublist.cons_cons _ (List.Sublist.cons_cons _ (List.Sublist.cons_cons _ List.Sublist.slnil))))), H⟩ (Nat.lt_succ_self _)
  replace H := cond_t H hb
  refine wpS_put rfl rfl rfl (yv_fieldAddr fo_66_2 rfl) ?_
  refine wpS_put rfl rfl rfl (yv_load_box sc_3 rfl (RW.here _) hS hs0 trivial sg2_1) ?_
  refine wpS_quick 1 rfl ?_
  refine wpS_put rfl rfl rfl (yv_neq rfl rfl) ?_
  refine wpS_quick 2 rfl ?_
  refine wpS_nil ?_
  refine QH_seq_k hK70 ?_
  refine wpC_cond rfl (fun hb => ?_) (fun hb => ?_)
  rotate_left
  · replace H := cond_f H hb
    refine wpC_skip ?_
    refine QH_seq_k hK69 ?_
    refine wpC_region ?_
    refine wpS_put rfl rfl rfl (yv_fieldAddr fo_66_2 rfl) ?_
    refine wpS_put rfl rfl rfl (yv_load_box sc_3 rfl (RW.here _) hS hs0 trivial sg2_1) ?_
    refine wpS_put rfl rfl rfl (yv_fieldAddr fo_66_3 rfl) ?_
    refine wpS_put rfl rfl rfl (yv_load_box sc_3 rfl (RW.here _) hS hs0 trivial sg3_1) ?_
    refine wpS_put rfl rfl rfl (yx_add rfl rfl) ?_
    refine wpS_quick 1 rfl ?_
    refine wpS_nil ?_
    refine QH_block_normal ?_
    refine QH_seq_k hK60 ?_
    refine wpC_region ?_
    refine wpS_put rfl rfl rfl (yx_add rfl rfl) ?_
    refine wpS_quick 1 rfl ?_
    refine wpS_nil ?_
    exact QH_again (n, (IntKind.wrap .i64 (e62.first + e62.count)), (IntKind.wrap .i64 (v55 + 1)), (updI v56 e62.seq 1)) (by repeat (first | exact Sub.nil | refine Sub.cons rfl ?_)) ⟨(hS.sub (List.Sublist.cons _ (List.Sublist.cons_cons _ (List.Sublist.cons_cons _ (List.Sublist.cons_cons _ List.Sublist.slnil))))), H⟩ (Nat.lt_succ_self _)
  replace H := cond_t H hb
  refine wpC_goto ?_
  refine QH_then_goto ?_
  refine QH_block_goto ?_
  refine QH_then_goto ?_
  refine QH_then_goto ?_
  refine QH_block_goto ?_
  refine QH_then_goto ?_
  refine QH_ahead ?_
  refine wpC_seq_k (fun K hK100 => ?_)
  refine wpC_skip ?_
  refine QH_seq_k hK100 ?_
  refine wpC_seq_k (fun K hK101 => ?_)
  refine wpC_region ?_
  refine wpS_quick 1 rfl ?_
  refine wpS_nil ?_
  refine QH_seq_k hK101 ?_
  refine wpC_ret ?_
  refine QH_jmp_ret ?_
  refine QH_ret rfl (RV.tmp rfl RV.nil) rfl ?_
  obtain rfl := Option.some.inj H
  replace hS := hS.cut 0
  exact ⟨rfl, hS⟩
theorem c_manifest_numbers (x0 : Mf) (A0_ : Option Addr) (c0_ : Nat) (w0 : World) (s0_ : SlI w0 enSg A0_ c0_ x0.segs) : Calls Tryd.prog 59 #[.agg #[.int .i64 x0.next, .int .i64 x0.term, .int .i64 x0.vote, .int .i64 x0.snap.seq, .int .i64 x0.snap.fmt, .slice A0_ x0.segs.length c0_]] w0 fun e w' => ∃ (b0_ : Nat), e = .returned (.func (.func 92) #[] #[.pointer (some ⟨b0_, 0, none⟩)]) ∧ St0 All w0 w' [.box b0_ [.int .i64 x0.next, .int .i64 x0.term, .int .i64 x0.vote, .int .i64 x0.snap.seq, .int .i64 x0.snap.fmt, .slice A0_ x0.segs.length c0_] 50] := by
  refine gw_enter1 Tryd.func59 rfl Tryd.ntmps59 rfl ?_
  have hS := St0.start All w0
  refine wpC_seq_k (fun K hK1 => ?_)
  refine wpC_region ?_
  refine wpS_box rfl rfl rfl CellsOf.agg hS (fun b2 w hS hB => ?_)
  refine wpS_quick 1 rfl ?_
  refine wpS_nil ?_
  refine QH_seq_k hK1 ?_
  refine wpC_seq_k (fun K hK4 => ?_)
  refine wpC_region ?_
  refine wpS_put rfl rfl rfl (yv_makeFunc rfl rfl) ?_
  refine wpS_quick 1 rfl ?_
  refine wpS_nil ?_
  refine QH_seq_k hK4 ?_
  refine wpC_ret ?_
  refine QH_ret rfl (RV.tmp rfl RV.nil) rfl ?_
  exact ⟨b2, rfl, hS.sub (List.Sublist.cons_cons _ List.Sublist.slnil)⟩
theorem c_manifest_Put (x0 : Mf) (A0_ : Option Addr) (c0_ : Nat) (w0 : World) (s0_ : SlI w0 enSg A0_ c0_ x0.segs) (hT_ : SlI w0 enU (some ⟨0, 0, none⟩) 16 tabU) {r : List UInt8 × Int} (H : m_manifest_Put x0 = some r) : Calls Tryd.prog 30 #[.agg #[.int .i64 x0.next, .int .i64 x0.term, .int .i64 x0.vote, .int .i64 x0.snap.seq, .int .i64 x0.snap.fmt, .slice A0_ x0.segs.length c0_]] w0 fun e w' => ∃ (A0 : Option Addr) (c0 : Nat), e = .returned (.tuple #[.slice A0 r.1.length c0, .int .i64 r.2]) ∧ (r.1.length ≤ c0 ∧ c0 ≤ maxLen) ∧ St0 All w0 w' [.row (.slice A0 r.1.length c0) 5 1 r.1.length (encs enY r.1)] := by
  unfold m_manifest_Put at H
  refine gw_enter1 Tryd.func30 rfl Tryd.ntmps30 rfl ?_
  have hS := St0.start All w0
  refine wpC_seq_k (fun K hK1 => ?_)
  refine wpC_region ?_
  refine wpS_box rfl rfl rfl CellsOf.agg hS (fun b2 w hS hB => ?_)
  refine wpS_quick 2 rfl ?_
  refine wpS_nil ?_
  refine QH_seq_k hK1 ?_
  refine wpC_seq_k (fun K hK4 => ?_)
  refine wpC_seq_k (fun K hK5 => ?_)
  refine wpC_region ?_
  refine wpS_put rfl rfl rfl (yv_load_boxA ag_50 rfl (RW.here _) hS hs0 trivial sg0_6) ?_
  obtain ⟨r6, hm7, H⟩ := bind_some H
  refine wpS_call rfl rfl rfl rfl (by kernel_rfl) rfl (c_manifest_Check x0 A0_ c0_ _ (SlI.of_rd s0_.k (hS.rd0 s0_.rd) (hS.blk0 s0_.blk)) hm7) ?_
  rintro e w ⟨rfl, hN⟩; refine ⟨_, rfl, ?_⟩; have hB := hN.pure; have hS := hS.join hN; clear hN
  refine wpS_quick 1 rfl ?_
  refine wpS_nil ?_
  refine QH_seq_k hK5 ?_
  refine wpC_seq_k (fun K hK8 => ?_)
  refine wpC_region ?_
  refine wpS_quick 1 rfl ?_
  refine wpS_put rfl rfl rfl (yv_neq rfl rfl) ?_
  refine wpS_nil ?_
  refine QH_seq_k hK8 ?_
  refine wpC_cond rfl (fun hb => ?_) (fun hb => ?_)
  · replace H := cond_t H hb
    refine wpC_seq_k (fun K hK10 => ?_)
    refine wpC_region ?_
    refine wpS_quick 3 rfl ?_
    refine wpS_nil ?_
    refine QH_seq_k hK10 ?_
    refine wpC_ret ?_
    refine QH_then_ret ?_
    refine QH_ret rfl (RV.tmp rfl (RV.tmp rfl RV.nil)) rfl ?_
    obtain rfl := Option.some.inj H
    have hS := hS.nilRow 5 1
    replace hS := hS.cut 1
    exact ⟨none, 0, rfl, ⟨Nat.le_refl _, Nat.zero_le _⟩, hS⟩
  replace H := cond_f H hb
  refine wpC_skip ?_
  refine QH_seq_k hK4 ?_
  refine wpC_seq_k (fun K hK12 => ?_)
  refine wpC_region ?_
  refine wpS_sliceM (ps := [(0, .const (.int .u8 77))]) [.int .u8 77] el_23 zc_5 rfl rfl rfl rfl rfl (by kernel_rfl) hS (fun b13 w hS hB => ?_)
  refine wpS_alloc rfl rfl zc_23 hS (fun b15 w hS hB => ?_)
  refine wpS_store rfl rfl rfl CellsOf.slice hS ps0 st0_1 (by kernel_rfl) rfl (fun w hS hB => ?_)
  refine wpS_nil ?_
  refine QH_seq_k hK12 ?_
  refine wpC_seq_k (fun K hK17 => ?_)
  refine wpC_seq_k (fun K hK18 => ?_)
  refine wpC_region ?_
  refine wpS_put rfl rfl rfl (yv_load_boxA ag_50 rfl (RW.here _) hS hs2 trivial sg0_6) ?_
  have hM19 := hS
  refine wpS_call rfl rfl rfl rfl (by kernel_rfl) rfl (c_manifest_numbers x0 A0_ c0_ _ (SlI.of_rd s0_.k (hS.rd0 s0_.rd) (hS.blk0 s0_.blk))) ?_
  rintro e w ⟨b21, rfl, hN20⟩; refine ⟨_, rfl, ?_⟩; have hB := hN20.pure; have hS := hS.join hN20
  refine wpS_nil ?_
  refine QH_seq_k hK18 ?_
  refine wpC_block ?_
  replace hS := hS.front 2 rfl
  replace hS := hS.weak (Weak.boxRow (cs := encs enY ([77] : List UInt8)) (n := 1) (size := 1) rfl (by decide))
  replace hM19 := hM19.front 1 rfl
  replace hM19 := hM19.weak (Weak.boxRow (cs := encs enY ([77] : List UInt8)) (n := 1) (size := 1) rfl (by decide))
  obtain ⟨xs28, hx29, H⟩ := bind_some H
  refine wpC_rangeM (w0 := w0) (X := List UInt8 × Option Addr × Nat) rfl (by kernel_rfl) (it_numbers x0 _ _ _ s0_ hM19.pure b21 hN20 hx29) ⟨hM19.size, hN20.size⟩ (fun _ => rfl) (by kernel_rfl) (fun k x => .row (.slice x.2.1 x.1.length x.2.2) 5 1 x.1.length (encs enY x.1) :: .box b15 [.slice x.2.1 x.1.length x.2.2] 23 :: .box b2 [.int .i64 x0.next, .int .i64 x0.term, .int .i64 x0.vote, .int .i64 x0.snap.seq, .int .i64 x0.snap.fmt, .slice A0_ x0.segs.length c0_] 50 :: []) (fun k x => (x.1.length ≤ x.2.2 ∧ x.2.2 ≤ maxLen) ∧ m_manifest_Put_r1 (xs28.drop k) x.1 = some r) (fun _ _ => []) (fun _ _ => False) (fun _ => False) (([77] : List UInt8), (some ⟨b13, 0, none⟩), 1) ⟨hS.sub (List.Sublist.cons_cons _ (List.Sublist.cons _ (List.Sublist.cons_cons _ (List.Sublist.cons_cons _ List.Sublist.slnil)))), fun e he k hk => .inl (hM19.rng e he k hk).1⟩ ⟨(show 1 ≤ 1 ∧ 1 ≤ maxLen from ⟨Nat.le_refl 1, by decide⟩), H⟩ ?_ ?_ (fun _ _ _ h _ => h.elim) (fun _ _ h _ => h.elim)
  · rintro lo k e23 ⟨v24, A25, c26⟩ E_ A hE_ hke ⟨k27, H⟩ hzB hRB hS
    dsimp only at hRB k27 H ⊢
    rw [drop_of_get hke, m_manifest_Put_r1] at H
    dsimp only [List.zip, List.zipWith, List.foldl]
    refine wpC_regionR (by repeat (first | exact NL.round | exact NL.false | exact NL.body (by intro _ h; simp at h) | apply NL.then | apply NL.inBlock | apply NL.jump)) (by kernel_rfl) ?_
    refine wpS_quick 1 rfl ?_
    refine wpS_nil ?_
    refine QH_asg hS ?_
    rintro A2 hS hBase hE
    dsimp only [List.cons_append, List.nil_append] at hS
    refine wpC_block ?_
    refine wpC_seq_k (fun K hK30 => ?_)
    refine wpC_regionR (by repeat (first | exact NL.round | exact NL.false | exact NL.body (by intro _ h; simp at h) | apply NL.then | apply NL.inBlock | apply NL.jump)) (by kernel_rfl) ?_
    refine wpS_quick 1 rfl ?_
    refine wpS_sliceM (ps := [(0, .tmp 19)]) [.int .i64 e23] el_90 zc_3 rfl rfl rfl rfl rfl (by kernel_rfl) hS (fun b31 w hS hB => ?_)
    obtain ⟨r33, hm34, H⟩ := bind_some H
    refine wpS_call rfl rfl rfl rfl (by kernel_rfl) rfl (c_num_Short ([e23] : List Int) (some ⟨b31, 0, none⟩) 1 _ (SlI.of_rd (show 1 ≤ 1 ∧ 1 ≤ maxLen from ⟨Nat.le_refl 1, by decide⟩) (hS.box_rd hs0) (hS.box_blk hs0)) hm34) ?_
    rintro e w ⟨A35, c36, rfl, k37, hN⟩; refine ⟨_, rfl, ?_⟩; have hB := hN.pure; have hS := hS.join hN; clear hN
    refine wpS_quick 1 rfl ?_
    refine wpS_put rfl rfl rfl (yv_extract rfl rfl) ?_
    refine wpS_put rfl rfl rfl (yv_extract rfl rfl) ?_
    refine wpS_quick 2 rfl ?_
    refine wpS_nil ?_
    refine QH_seq_k hK30 ?_
    refine wpC_regionR (by repeat (first | exact NL.round | exact NL.false | exact NL.body (by intro _ h; simp at h) | apply NL.then | apply NL.inBlock | apply NL.jump)) (by kernel_rfl) ?_
    refine wpS_put rfl rfl rfl (yv_load_box sc_23 rfl (RW.here _) hS hs3 trivial sg0_1) ?_
    refine wpS_quick 1 rfl ?_
    obtain ⟨l39, hf40, H⟩ := bind_some H
    refine wpX_append (ys := r33.1) he_enY oc_enY em_23 (by decide) rfl rfl rfl rfl hS (fun _ => ps2) (hS.row_rd hs0) hf40 (fun A41 c42 w k43 hS => ?_)
    refine wpS_store rfl rfl rfl CellsOf.slice hS ps3 st0_1 (by kernel_rfl) rfl (fun w hS hB => ?_)
    refine wpS_nil ?_
    refine QH_block_normal ?_
    exact QH_round hBase hE hS (l39, A41, c42) (List.Sublist.cons _ (List.Sublist.cons _ (List.Sublist.cons_cons _ (List.Sublist.cons_cons _ (List.Sublist.cons_cons _ List.Sublist.slnil))))) ⟨k43, H⟩
  · rintro ⟨v24, A25, c26⟩ A ⟨k27, H⟩ hS
    dsimp only at hS k27 H ⊢
    rw [List.drop_length, m_manifest_Put_r1] at H
    refine QH_block_normal ?_
    refine QH_seq_k hK17 ?_
    refine wpC_seq_k (fun K hK45 => ?_)
    refine wpC_region ?_
    refine wpS_put rfl rfl rfl (yv_load_box sc_23 rfl (RW.here _) hS hs2 trivial sg0_1) ?_
    obtain ⟨r46, hm47, H⟩ := bind_some H
    refine wpS_call rfl rfl rfl rfl (by kernel_rfl) rfl (c_crc_Put v24 A25 c26 _ (SlI.of_rd k27 (hS.row_rd hs1) (hS.row_blk hs1)) (SlI.of_rd hT_.k (hS.rd0 hT_.rd) (hS.blk0 hT_.blk)) hm47) ?_
    rintro e w ⟨A48, c49, rfl, k50, hN⟩; refine ⟨_, rfl, ?_⟩; have hB := hN.pure; have hS := hS.join hN; clear hN
    refine wpS_quick 2 rfl ?_
    refine wpS_nil ?_
    refine QH_seq_k hK45 ?_
    refine wpC_ret ?_
    refine QH_shut (.inl rfl) hS ps1 (fun w hS => ?_)
    replace hS := hS.sub (List.Sublist.cons_cons _ (List.Sublist.cons _ (List.Sublist.cons_cons _ (List.Sublist.cons_cons _ (List.Sublist.cons_cons _ List.Sublist.slnil)))))
    refine QH_ret rfl (RV.tmp rfl (RV.tmp rfl RV.nil)) rfl ?_
    obtain rfl := Option.some.inj H
    have hS := hS.front 0 rfl
    replace hS := hS.cut 1
    exact ⟨A48, c49, rfl, k50, hS⟩
theorem c_manifest_Take (x0 : List UInt8) (A0_ : Option Addr) (c0_ : Nat) (w0 : World) (s0_ : SlI w0 enY A0_ c0_ x0) (hT_ : SlI w0 enU (some ⟨0, 0, none⟩) 16 tabU) {r : Mf × Int} (H : m_manifest_Take x0 = some r) : Calls Tryd.prog 33 #[.slice A0_ x0.length c0_] w0 fun e w' => ∃ (A0 : Option Addr) (c0 : Nat), e = .returned (.tuple #[.agg #[.int .i64 r.1.next, .int .i64 r.1.term, .int .i64 r.1.vote, .int .i64 r.1.snap.seq, .int .i64 r.1.snap.fmt, .slice A0 r.1.segs.length c0], .int .i64 r.2]) ∧ (r.1.segs.length ≤ c0 ∧ c0 ≤ maxLen) ∧ St0 All w0 w' [.row (.slice A0 r.1.segs.length c0) 66 4 r.1.segs.length (encs enSg r.1.segs)] := by
  unfold m_manifest_Take at H
  refine gw_enter1 Tryd.func33 rfl Tryd.ntmps33 rfl ?_
  have hS := St0.start All w0
  refine wpC_seq_k (fun K hK1 => ?_)
  refine wpC_region ?_
  refine wpS_alloc rfl rfl zc_50 hS (fun b2 w hS hB => ?_)
  refine wpS_quick 1 rfl ?_
  refine wpS_nil ?_
  refine QH_seq_k hK1 ?_
  refine wpC_scope1 0 rfl ?_
  refine wpC_seq_k (fun K hK4 => ?_)
  refine wpC_region ?_
  refine wpS_quick 2 rfl ?_
  refine wpS_nil ?_
  refine QH_seq_k hK4 ?_
  refine wpC_seq_k (fun K hK5 => ?_)
  refine wpC_region ?_
  refine wpS_quick 1 rfl ?_
  obtain ⟨r6, hm7, H⟩ := bind_some H
  refine wpS_call rfl rfl rfl rfl (by kernel_rfl) rfl (c_crc_Take x0 A0_ c0_ _ (SlI.of_rd s0_.k (hS.rd0 s0_.rd) (hS.blk0 s0_.blk)) (SlI.of_rd hT_.k (hS.rd0 hT_.rd) (hS.blk0 hT_.blk)) hm7) ?_
  rintro e w ⟨A8, c9, rfl, k10, hN⟩; refine ⟨_, rfl, ?_⟩; have hB := hN.pure; have hS := hS.join hN; clear hN
  refine wpS_quick 1 rfl ?_
  refine wpS_put rfl rfl rfl (yv_extract rfl rfl) ?_
  refine wpS_put rfl rfl rfl (yv_extract rfl rfl) ?_
  refine wpS_quick 2 rfl ?_
  refine wpS_nil ?_
  refine QH_seq_k hK5 ?_
  refine wpC_seq_k (fun K hK12 => ?_)
  refine wpC_seq_k (fun K hK13 => ?_)
  refine wpC_region ?_
  refine wpS_quick 1 rfl ?_
  refine wpS_put rfl rfl rfl (yv_not rfl) ?_
  refine wpS_quick 1 rfl ?_
  refine wpS_case 18 rfl (fun hb => ?_) (fun hb => ?_)
  · replace H := cond_t H hb
    refine wpS_quick 4 rfl ?_
    refine wpS_nil ?_
    refine QH_seq_k hK13 ?_
    refine wpC_cond_t rfl rfl ?_
    refine wpC_goto ?_
    refine QH_then_goto ?_
    refine QH_ahead ?_
    refine wpC_seq_k (fun K hK15 => ?_)
    refine wpC_skip ?_
    refine QH_seq_k hK15 ?_
    refine wpC_seq_k (fun K hK16 => ?_)
    refine wpC_region ?_
    refine wpS_put rfl rfl rfl (yv_build (cells := [.int .i64 0, .int .i64 0, .int .i64 0, .int .i64 0, .int .i64 0, .slice none 0 0]) rfl (by kernel_rfl)) ?_
    refine wpS_store rfl rfl rfl CellsOf.agg hS ps1 st0_6 (by kernel_rfl) rfl (fun w hS hB => ?_)
    refine wpS_quick 1 rfl ?_
    refine wpS_nil ?_
    refine QH_seq_k hK16 ?_
    refine wpC_ret ?_
    refine QH_jmp_ret ?_
    refine QH_ret rfl (RV.cell rfl (load_boxA ag_50 hS hs1 sg0_6) (RV.tmp rfl RV.nil)) rfl ?_
    obtain rfl := Option.some.inj H
    have hS := hS.nilRow 66 4
    replace hS := hS.cut 1
    exact ⟨none, 0, rfl, ⟨Nat.le_refl _, Nat.zero_le _⟩, hS⟩
  replace H := cond_f H hb
  refine wpS_quick 1 rfl ?_
  refine wpS_put rfl rfl rfl (yv_len el_23 rfl) ?_
  refine wpS_put rfl rfl rfl (yv_eql rfl rfl) ?_
  refine wpS_quick 1 rfl ?_
  refine wpS_nil ?_
  refine QH_seq_k hK13 ?_
  refine wpC_cond rfl (fun hb => ?_) (fun hb => ?_)
  · replace H := cond_t H hb
    refine wpC_goto ?_
    refine QH_then_goto ?_
    refine QH_ahead ?_
    refine wpC_seq_k (fun K hK19 => ?_)
    refine wpC_skip ?_
    refine QH_seq_k hK19 ?_
    refine wpC_seq_k (fun K hK20 => ?_)
    refine wpC_region ?_
    refine wpS_put rfl rfl rfl (yv_build (cells := [.int .i64 0, .int .i64 0, .int .i64 0, .int .i64 0, .int .i64 0, .slice none 0 0]) rfl (by kernel_rfl)) ?_
    refine wpS_store rfl rfl rfl CellsOf.agg hS ps1 st0_6 (by kernel_rfl) rfl (fun w hS hB => ?_)
    refine wpS_quick 1 rfl ?_
    refine wpS_nil ?_
    refine QH_seq_k hK20 ?_
    refine wpC_ret ?_
    refine QH_jmp_ret ?_
    refine QH_ret rfl (RV.cell rfl (load_boxA ag_50 hS hs1 sg0_6) (RV.tmp rfl RV.nil)) rfl ?_
    obtain rfl := Option.some.inj H
    have hS := hS.nilRow 66 4
    replace hS := hS.cut 1
    exact ⟨none, 0, rfl, ⟨Nat.le_refl _, Nat.zero_le _⟩, hS⟩
  replace H := cond_f H hb
  refine wpC_skip ?_
  refine QH_seq_k hK12 ?_
  refine wpC_seq_k (fun K hK22 => ?_)
  refine wpC_seq_k (fun K hK23 => ?_)
  refine wpC_region ?_
  refine wpS_quick 1 rfl ?_
  obtain ⟨l24, hd25, H⟩ := bind_some H
  refine wpS_put rfl rfl rfl (yx_slice_l el_23 rfl rfl hd25) ?_
  obtain ⟨r26, hm27, H⟩ := bind_some H
  refine wpS_call rfl rfl rfl rfl (by kernel_rfl) rfl (c_num_Takes l24 6 (cutA A8 c9 (Int.toNat 1) 1) (c9 - Int.toNat 1) _ (SlI.of_rd (k_drop k10 hd25) (Rd.dropI he_enY (hS.row_rd hs0) k10.1 hd25) (cutA_blk (hS.row_blk hs0))) hm27) ?_
  rintro e w ⟨A28, c29, A32, c33, rfl, k30, k34, hN⟩; refine ⟨_, rfl, ?_⟩; have hB := hN.pure; have hS := hS.join hN; clear hN
  refine wpS_quick 1 rfl ?_
  refine wpS_put rfl rfl rfl (yv_extract rfl rfl) ?_
  refine wpS_put rfl rfl rfl (yv_extract rfl rfl) ?_
  refine wpS_put rfl rfl rfl (yv_extract rfl rfl) ?_
  refine wpS_quick 2 rfl ?_
  refine wpS_nil ?_
  refine QH_seq_k hK23 ?_
  refine wpC_seq_k (fun K hK36 => ?_)
  refine wpC_region ?_
  refine wpS_quick 1 rfl ?_
  refine wpS_put rfl rfl rfl (yv_neq rfl rfl) ?_
  refine wpS_quick 1 rfl ?_
  refine wpS_case 32 rfl (fun hb => ?_) (fun hb => ?_)
  · replace H := cond_t H hb
    refine wpS_quick 5 rfl ?_
    refine wpS_nil ?_
    refine QH_seq_k hK36 ?_
    refine wpC_cond_t rfl rfl ?_
    refine wpC_goto ?_
    refine QH_then_goto ?_
    refine QH_ahead ?_
    refine wpC_seq_k (fun K hK38 => ?_)
    refine wpC_skip ?_
    refine QH_seq_k hK38 ?_
    refine wpC_seq_k (fun K hK39 => ?_)
    refine wpC_region ?_
    refine wpS_put rfl rfl rfl (yv_build (cells := [.int .i64 0, .int .i64 0, .int .i64 0, .int .i64 0, .int .i64 0, .slice none 0 0]) rfl (by kernel_rfl)) ?_
    refine wpS_store rfl rfl rfl CellsOf.agg hS ps3 st0_6 (by kernel_rfl) rfl (fun w hS hB => ?_)
    refine wpS_quick 1 rfl ?_
    refine wpS_nil ?_
    refine QH_seq_k hK39 ?_
    refine wpC_ret ?_
    refine QH_jmp_ret ?_
    refine QH_ret rfl (RV.cell rfl (load_boxA ag_50 hS hs3 sg0_6) (RV.tmp rfl RV.nil)) rfl ?_
    obtain rfl := Option.some.inj H
    have hS := hS.nilRow 66 4
    replace hS := hS.cut 1
    exact ⟨none, 0, rfl, ⟨Nat.le_refl _, Nat.zero_le _⟩, hS⟩
  replace H := cond_f H hb
  refine wpS_quick 1 rfl ?_
  obtain ⟨e41, hi43, H⟩ := bind_some H
  obtain ⟨j42, hi43a, hi43b, hi43c⟩ := idx_some hi43
  refine wpS_put rfl rfl rfl (yx_idx el_90 rfl rfl hi43a hi43c (Rd.el (hS.row_rd hs0) he_enI hi43b)) ?_
  refine wpS_put rfl rfl rfl (yx_ld0 sc_3 rfl (RW.here _) (Rd.el (hS.row_rd hs0) he_enI hi43b) rfl) ?_
  refine wpS_put rfl rfl rfl (yv_gtr rfl rfl) ?_
  refine wpS_quick 1 rfl ?_
  refine wpS_nil ?_
  refine QH_seq_k hK36 ?_
  refine wpC_cond rfl (fun hb => ?_) (fun hb => ?_)
  · replace H := cond_t H hb
    refine wpC_goto ?_
    refine QH_then_goto ?_
    refine QH_ahead ?_
    refine wpC_seq_k (fun K hK45 => ?_)
    refine wpC_skip ?_
    refine QH_seq_k hK45 ?_
    refine wpC_seq_k (fun K hK46 => ?_)
    refine wpC_region ?_
    refine wpS_put rfl rfl rfl (yv_build (cells := [.int .i64 0, .int .i64 0, .int .i64 0, .int .i64 0, .int .i64 0, .slice none 0 0]) rfl (by kernel_rfl)) ?_
    refine wpS_store rfl rfl rfl CellsOf.agg hS ps3 st0_6 (by kernel_rfl) rfl (fun w hS hB => ?_)
    refine wpS_quick 1 rfl ?_
    refine wpS_nil ?_
    refine QH_seq_k hK46 ?_
    refine wpC_ret ?_
    refine QH_jmp_ret ?_
    refine QH_ret rfl (RV.cell rfl (load_boxA ag_50 hS hs3 sg0_6) (RV.tmp rfl RV.nil)) rfl ?_
    obtain rfl := Option.some.inj H
    have hS := hS.nilRow 66 4
    replace hS := hS.cut 1
    exact ⟨none, 0, rfl, ⟨Nat.le_refl _, Nat.zero_le _⟩, hS⟩
  replace H := cond_f H hb
  refine wpC_skip ?_
  refine QH_seq_k hK22 ?_
  refine wpC_seq_k (fun K hK48 => ?_)
  refine wpC_seq_k (fun K hK49 => ?_)
  refine wpC_draw 14 [] (fun _ _ => True) ⟨by kernel_rfl, by kernel_rfl⟩ hS (fun w hS hB => ?_)
  refine wpR_batch [true, true, true, true, true, true, true] (by decide +kernel) (by repeat (first | exact PF.body | exact PF.round | apply PF.then | apply PF.inBlock | apply PF.jump)) ?_
  refine LtK.put rfl rfl rfl (yv_move rfl) ?_
  obtain ⟨l50, hd51, H⟩ := bind_some H
  refine LtK.put rfl rfl rfl (yx_slice_l el_23 rfl rfl hd51) ?_
  refine LtK.put rfl rfl rfl (yv_move rfl) ?_
  obtain ⟨e52, hi54, H⟩ := bind_some H
  obtain ⟨j53, hi54a, hi54b, hi54c⟩ := idx_some hi54
  refine LtK.put rfl rfl rfl (yx_idx el_90 rfl rfl hi54a hi54c (Rd.el (hS.row_rd hs0) he_enI hi54b)) ?_
  refine LtK.put rfl rfl rfl (yx_ld0 sc_3 rfl (RW.below _) (Rd.el (hS.row_rd hs0) he_enI hi54b) rfl) ?_
  refine LtK.put rfl rfl rfl (yx_mul rfl rfl) ?_
  refine LtK.put rfl rfl rfl (yx_add rfl rfl) ?_
  refine LtK.nil ?_
  refine wpR_call [false, false, false, false, false, false, false, true] 7 ⟨by decide, by kernel_rfl, by kernel_rfl⟩ rfl rfl ?_
  try dsimp only [pickL]
  obtain ⟨r55, hm56, H⟩ := bind_some H
  refine wpS_call rfl rfl rfl rfl (by kernel_rfl) rfl (c_num_Takes l50 (IntKind.wrap .i64 (6 + (IntKind.wrap .i64 (4 * e52)))) (cutA A8 c9 (Int.toNat 1) 1) (c9 - Int.toNat 1) _ (SlI.of_rd (k_drop k10 hd51) (Rd.dropI he_enY (hS.row_rd hs2) k10.1 hd51) (cutA_blk (hS.row_blk hs2))) hm56) ?_
  rintro e w ⟨A57, c58, A61, c62, rfl, k59, k63, hN⟩; refine ⟨_, rfl, ?_⟩; have hB := hN.pure; have hS := hS.join hN; clear hN
  refine wpS_nil ?_
  refine QH_step hB ?_
  refine wpR_batch [false, false, false, false, false, false, false, false, true, true, true, true, true, true] (by decide +kernel) (by repeat (first | exact PF.body | exact PF.round | apply PF.then | apply PF.inBlock | apply PF.jump)) ?_
  refine LtK.put rfl rfl rfl (yv_move rfl) ?_
  refine LtK.put rfl rfl rfl (yv_extract rfl rfl) ?_
  refine LtK.put rfl rfl rfl (yv_extract rfl rfl) ?_
  refine LtK.put rfl rfl rfl (yv_extract rfl rfl) ?_
  refine LtK.put rfl rfl rfl (yv_assign rfl) ?_
  refine LtK.put rfl rfl rfl (yv_assign rfl) ?_
  refine LtK.nil ?_
  refine wpR_end (by kernel_rfl) ?_
  refine QH_seq_k hK49 ?_
  refine wpC_seq_k (fun K hK65 => ?_)
  refine wpC_region ?_
  refine wpS_quick 1 rfl ?_
  refine wpS_put rfl rfl rfl (yv_neq rfl rfl) ?_
  refine wpS_nil ?_
  refine QH_seq_k hK65 ?_
  refine wpC_cond rfl (fun hb => ?_) (fun hb => ?_)
  · replace H := cond_t H hb
    refine wpC_goto ?_
    refine QH_then_goto ?_
    refine QH_ahead ?_
    refine wpC_seq_k (fun K hK67 => ?_)
    refine wpC_skip ?_
    refine QH_seq_k hK67 ?_
    refine wpC_seq_k (fun K hK68 => ?_)
    refine wpC_region ?_
    refine wpS_put rfl rfl rfl (yv_build (cells := [.int .i64 0, .int .i64 0, .int .i64 0, .int .i64 0, .int .i64 0, .slice none 0 0]) rfl (by kernel_rfl)) ?_
    refine wpS_store rfl rfl rfl CellsOf.agg hS ps5 st0_6 (by kernel_rfl) rfl (fun w hS hB => ?_)
    refine wpS_quick 1 rfl ?_
    refine wpS_nil ?_
    refine QH_seq_k hK68 ?_
    refine wpC_ret ?_
    refine QH_jmp_ret ?_
    refine QH_ret rfl (RV.cell rfl (load_boxA ag_50 hS hs5 sg0_6) (RV.tmp rfl RV.nil)) rfl ?_
    obtain rfl := Option.some.inj H
    have hS := hS.nilRow 66 4
    replace hS := hS.cut 1
    exact ⟨none, 0, rfl, ⟨Nat.le_refl _, Nat.zero_le _⟩, hS⟩
  replace H := cond_f H hb
  refine wpC_skip ?_
  refine QH_seq_k hK48 ?_
  refine wpC_seq_k (fun K hK70 => ?_)
  refine wpC_draw 18 [17] (fun i b => (i = 17 → b ≠ b2)) ⟨by kernel_rfl, by kernel_rfl⟩ hS (fun w hS hB => ?_)
  refine wpR_batch [true, true, true, true, true, true, true, true, true, true, true, true, true, true, true, true, true] (by decide +kernel) (by repeat (first | exact PF.body | exact PF.round | apply PF.then | apply PF.inBlock | apply PF.jump)) ?_
  refine LtK.put rfl rfl rfl (yv_move rfl) ?_
  obtain ⟨e71, hi73, H⟩ := bind_some H
  obtain ⟨j72, hi73a, hi73b, hi73c⟩ := idx_some hi73
  refine LtK.put rfl rfl rfl (yx_idx el_90 rfl rfl hi73a hi73c (Rd.el (hS.row_rd hs2) he_enI hi73b)) ?_
  refine LtK.put rfl rfl rfl (yx_ld0 sc_3 rfl (RW.below _) (Rd.el (hS.row_rd hs2) he_enI hi73b) rfl) ?_
  refine LtK.put rfl rfl rfl (yv_move rfl) ?_
  obtain ⟨e74, hi76, H⟩ := bind_some H
  obtain ⟨j75, hi76a, hi76b, hi76c⟩ := idx_some hi76
  refine LtK.put rfl rfl rfl (yx_idx el_90 rfl rfl hi76a hi76c (Rd.el (hS.row_rd hs2) he_enI hi76b)) ?_
  refine LtK.put rfl rfl rfl (yx_ld0 sc_3 rfl (RW.below _) (Rd.el (hS.row_rd hs2) he_enI hi76b) rfl) ?_
  refine LtK.put rfl rfl rfl (yv_move rfl) ?_
  obtain ⟨e77, hi79, H⟩ := bind_some H
  obtain ⟨j78, hi79a, hi79b, hi79c⟩ := idx_some hi79
  refine LtK.put rfl rfl rfl (yx_idx el_90 rfl rfl hi79a hi79c (Rd.el (hS.row_rd hs2) he_enI hi79b)) ?_
  refine LtK.put rfl rfl rfl (yx_ld0 sc_3 rfl (RW.below _) (Rd.el (hS.row_rd hs2) he_enI hi79b) rfl) ?_
  refine LtK.put rfl rfl rfl (yv_move rfl) ?_
  obtain ⟨e80, hi82, H⟩ := bind_some H
  obtain ⟨j81, hi82a, hi82b, hi82c⟩ := idx_some hi82
  refine LtK.put rfl rfl rfl (yx_idx el_90 rfl rfl hi82a hi82c (Rd.el (hS.row_rd hs2) he_enI hi82b)) ?_
  refine LtK.put rfl rfl rfl (yx_ld0 sc_3 rfl (RW.below _) (Rd.el (hS.row_rd hs2) he_enI hi82b) rfl) ?_
  refine LtK.put rfl rfl rfl (yv_move rfl) ?_
  obtain ⟨e83, hi85, H⟩ := bind_some H
  obtain ⟨j84, hi85a, hi85b, hi85c⟩ := idx_some hi85
  refine LtK.put rfl rfl rfl (yx_idx el_90 rfl rfl hi85a hi85c (Rd.el (hS.row_rd hs2) he_enI hi85b)) ?_
  refine LtK.put rfl rfl rfl (yx_ld0 sc_3 rfl (RW.below _) (Rd.el (hS.row_rd hs2) he_enI hi85b) rfl) ?_
  refine LtK.put rfl rfl rfl (yv_build (cells := [.int .i64 e80, .int .i64 e83]) rfl (by kernel_rfl)) ?_
  refine LtK.put rfl rfl rfl (yv_build (cells := [.int .i64 e71, .int .i64 e74, .int .i64 e77, .int .i64 e80, .int .i64 e83, .slice none 0 0]) rfl (by kernel_rfl)) ?_
  refine LtK.nil ?_
  refine wpR_seal [false, false, false, false, false, false, false, false, false, false, false, false, false, false, false, false, false, true] 17 ⟨by decide, by kernel_rfl, by kernel_rfl⟩ rfl rfl ?_
  try dsimp only [pickL]
  refine wpS_store rfl rfl rfl CellsOf.agg hS ps5 st0_6 (by kernel_rfl) rfl (fun w hS hB => ?_)
  refine wpS_nil ?_
  refine QH_stepG (hB.sub (fun _ _ h => by simpa using h)) ?_
  refine wpR_end (by kernel_rfl) ?_
  refine QH_seq_k hK70 ?_
  refine wpC_seq_k (fun K hK86 => ?_)
  refine wpC_seq_k (fun K hK87 => ?_)
  refine wpC_region ?_
  refine wpS_quick 1 rfl ?_
  obtain ⟨l88, hd89, H⟩ := bind_some H
  refine wpS_put rfl rfl rfl (yx_slice_l el_90 rfl rfl hd89) ?_
  have hM90 := hS
  refine wpS_call rfl rfl rfl rfl (by kernel_rfl) rfl (c_slices_Chunk4 l88 4 (cutA A57 c58 (Int.toNat 6) 1) (c58 - Int.toNat 6) _ (SlI.of_rd (k_drop k59 hd89) (Rd.dropI he_enI (hS.row_rd hs0) k59.1 hd89) (cutA_blk (hS.row_blk hs0)))) ?_
  rintro e w ⟨b92, b93, rfl, hN91⟩; refine ⟨_, rfl, ?_⟩; have hB := hN91.pure; have hS := hS.join hN91
  refine wpS_nil ?_
  refine QH_seq_k hK87 ?_
  refine wpC_block ?_
  replace hS := hS.nilRow 66 4
  replace hM90 := hM90.nilRow 66 4
  obtain ⟨xs102, hx103, H⟩ := bind_some H
  refine wpC_range (w0 := w0) (X := List Sg × Option Addr × Nat) rfl (by kernel_rfl) (it_chunk l88 4 _ _ _ (k_drop k59 hd89) hM90.pure b92 b93 hN91 hx103) ⟨hM90.size, hN91.size⟩ (fun _ => rfl) (by kernel_rfl) (fun k x => .row (.slice x.2.1 x.1.length x.2.2) 66 4 x.1.length (encs enSg x.1) :: .row (.slice A57 r55.1.length c58) 3 1 r55.1.length (encs enI r55.1) :: .row (.slice A61 r55.2.1.length c62) 5 1 r55.2.1.length (encs enY r55.2.1) :: .row (.slice A28 r26.1.length c29) 3 1 r26.1.length (encs enI r26.1) :: .row (.slice A32 r26.2.1.length c33) 5 1 r26.2.1.length (encs enY r26.2.1) :: .row (.slice A8 r6.1.length c9) 5 1 r6.1.length (encs enY r6.1) :: .box b2 [.int .i64 e71, .int .i64 e74, .int .i64 e77, .int .i64 e80, .int .i64 e83, .slice x.2.1 x.1.length x.2.2] 50 :: []) (fun k x => (x.1.length ≤ x.2.2 ∧ x.2.2 ≤ maxLen) ∧ m_manifest_Take_r1 x0 e71 e74 e77 e80 e83 (xs102.drop k) x.1 = some r) (fun _ _ => []) (fun _ _ => False) (fun _ => False) ([], none, 0) ⟨hS.sub (List.Sublist.cons_cons _ (List.Sublist.cons _ (List.Sublist.cons _ (List.Sublist.cons_cons _ (List.Sublist.cons_cons _ (List.Sublist.cons_cons _ (List.Sublist.cons_cons _ (List.Sublist.cons_cons _ (List.Sublist.cons_cons _ List.Sublist.slnil))))))))), fun e he k hk => .inl (hM90.rng e he k hk).1⟩ ⟨⟨Nat.le_refl _, Nat.zero_le _⟩, H⟩ ?_ ?_ (fun _ _ _ h _ => h.elim) (fun _ _ h _ => h.elim)
  · rintro lo k e96 ⟨v97, A98, c99⟩ A hke ⟨k100, H⟩ hzB hRB hS
    have hc_ := chunkAt_of hx103 hke
    dsimp only at hRB k100 H ⊢
    rw [drop_of_get hke, m_manifest_Take_r1] at H
    dsimp only [List.zip, List.zipWith, List.foldl]
    refine wpC_regionR (by repeat (first | exact NL.round | exact NL.false | exact NL.body (by intro _ h; simp at h) | apply NL.then | apply NL.inBlock | apply NL.jump)) (by kernel_rfl) ?_
    refine wpS_quick 1 rfl ?_
    refine wpS_nil ?_
    refine QH_asg hS ?_
    rintro A2 hS hBase hE
    dsimp only [List.cons_append, List.nil_append] at hS
    refine wpC_block ?_
    refine wpC_drawR (by repeat (first | exact NL.round | exact NL.false | exact NL.body (by intro _ h; simp at h) | apply NL.then | apply NL.inBlock | apply NL.jump)) (by kernel_rfl) 20 [17, 19] (fun i b => (i = 17 → False) ∧ (i = 19 → b ≠ b2)) ⟨by kernel_rfl, by kernel_rfl⟩ hS (fun w hS hB => ?_)
    refine wpR_batch [true, true, true, true, true, true, true, true, true, true, true, true, true, true, true, true] (by decide +kernel) (by repeat (first | exact PF.body | exact PF.round | apply PF.then | apply PF.inBlock | apply PF.jump)) ?_
    refine LtK.put rfl rfl rfl (yv_fieldAddr fo_50_4 rfl) ?_
    refine LtK.put rfl rfl rfl (yv_load_box sc_48 rfl (RW.below _) hS hs6 trivial sg5_1) ?_
    refine LtK.put rfl rfl rfl (yv_move rfl) ?_
    obtain ⟨e104, hi106, H⟩ := bind_some H
    obtain ⟨j105, hi106a, hi106b, hi106c⟩ := idx_some hi106
    refine LtK.put rfl rfl rfl (yx_idx el_90 rfl rfl hi106a hi106c (Rd.el (Rd.chunk hc_ (k_drop k59 hd89).1 (Rd.dropI he_enI (hS.row_rd hs1) k59.1 hd89)) he_enI hi106b)) ?_
    refine LtK.put rfl rfl rfl (yx_ld0 sc_3 rfl (RW.below _) (Rd.el (Rd.chunk hc_ (k_drop k59 hd89).1 (Rd.dropI he_enI (hS.row_rd hs1) k59.1 hd89)) he_enI hi106b) rfl) ?_
    refine LtK.put rfl rfl rfl (yv_move rfl) ?_
    obtain ⟨e107, hi109, H⟩ := bind_some H
    obtain ⟨j108, hi109a, hi109b, hi109c⟩ := idx_some hi109
    refine LtK.put rfl rfl rfl (yx_idx el_90 rfl rfl hi109a hi109c (Rd.el (Rd.chunk hc_ (k_drop k59 hd89).1 (Rd.dropI he_enI (hS.row_rd hs1) k59.1 hd89)) he_enI hi109b)) ?_
    refine LtK.put rfl rfl rfl (yx_ld0 sc_3 rfl (RW.below _) (Rd.el (Rd.chunk hc_ (k_drop k59 hd89).1 (Rd.dropI he_enI (hS.row_rd hs1) k59.1 hd89)) he_enI hi109b) rfl) ?_
    refine LtK.put rfl rfl rfl (yv_move rfl) ?_
    obtain ⟨e110, hi112, H⟩ := bind_some H
    obtain ⟨j111, hi112a, hi112b, hi112c⟩ := idx_some hi112
    refine LtK.put rfl rfl rfl (yx_idx el_90 rfl rfl hi112a hi112c (Rd.el (Rd.chunk hc_ (k_drop k59 hd89).1 (Rd.dropI he_enI (hS.row_rd hs1) k59.1 hd89)) he_enI hi112b)) ?_
    refine LtK.put rfl rfl rfl (yx_ld0 sc_3 rfl (RW.below _) (Rd.el (Rd.chunk hc_ (k_drop k59 hd89).1 (Rd.dropI he_enI (hS.row_rd hs1) k59.1 hd89)) he_enI hi112b) rfl) ?_
    refine LtK.put rfl rfl rfl (yv_move rfl) ?_
    obtain ⟨e113, hi115, H⟩ := bind_some H
    obtain ⟨j114, hi115a, hi115b, hi115c⟩ := idx_some hi115
    refine LtK.put rfl rfl rfl (yx_idx el_90 rfl rfl hi115a hi115c (Rd.el (Rd.chunk hc_ (k_drop k59 hd89).1 (Rd.dropI he_enI (hS.row_rd hs1) k59.1 hd89)) he_enI hi115b)) ?_
    refine LtK.put rfl rfl rfl (yx_ld0 sc_3 rfl (RW.below _) (Rd.el (Rd.chunk hc_ (k_drop k59 hd89).1 (Rd.dropI he_enI (hS.row_rd hs1) k59.1 hd89)) he_enI hi115b) rfl) ?_
    refine LtK.put rfl rfl rfl (yx_sub rfl rfl) ?_
    refine LtK.put rfl rfl rfl (yv_build (cells := [.int .i64 e104, .int .i64 e107, .int .i64 e110, .int .i64 (IntKind.wrap .i64 (e113 - 1))]) rfl (by kernel_rfl)) ?_
    refine LtK.nil ?_
    refine wpR_call [false, false, false, false, false, false, false, false, false, false, false, false, false, false, false, false, true] 16 ⟨by decide, by kernel_rfl, by kernel_rfl⟩ rfl rfl ?_
    try dsimp only [pickL]
    refine wpS_sliceM (ps := [(0, .tmp 88)]) [.int .i64 e104, .int .i64 e107, .int .i64 e110, .int .i64 (IntKind.wrap .i64 (e113 - 1))] el_48 zc_66 rfl rfl rfl rfl rfl (by kernel_rfl) hS (fun b116 w hS hB => ?_)
    refine wpS_nil ?_
    refine QH_step hB ?_
    refine wpR_seal [false, false, false, false, false, false, false, false, false, false, false, false, false, false, false, false, false, true] 17 ⟨by decide, by kernel_rfl, by kernel_rfl⟩ rfl rfl ?_
    try dsimp only [pickL]
    obtain ⟨l118, hf119, H⟩ := bind_some H
    refine wpX_append2 (ys := ([(⟨e104, e107, e110, (IntKind.wrap .i64 (e113 - 1))⟩ : Sg)] : List Sg)) he_enSg oc_enSg em_48 (by decide) rfl rfl rfl rfl hS (fun _ => ps1) (hS.box_rd hs0) hf119 (fun A120 c121 w k122 hS hB => ?_)
    refine wpS_nil ?_
    refine QH_stepG (hB.sub (fun _ _ h => by simp at h)) ?_
    refine wpR_batch [false, false, false, false, false, false, false, false, false, false, false, false, false, false, false, false, false, false, true] (by decide +kernel) (by repeat (first | exact PF.body | exact PF.round | apply PF.then | apply PF.inBlock | apply PF.jump)) ?_
    refine LtK.put rfl rfl rfl (yv_fieldAddr fo_50_4 rfl) ?_
    refine LtK.nil ?_
    refine wpR_seal [false, false, false, false, false, false, false, false, false, false, false, false, false, false, false, false, false, false, false, true] 19 ⟨by decide, by kernel_rfl, by kernel_rfl⟩ rfl rfl ?_
    try dsimp only [pickL]
    refine wpS_store rfl rfl rfl CellsOf.slice hS ps7 st5_1 (by kernel_rfl) rfl (fun w hS hB => ?_)
    refine wpS_nil ?_
    refine QH_stepG (hB.sub (fun _ _ h => by simpa using h)) ?_
    refine wpR_end (by kernel_rfl) ?_
    refine QH_block_normal ?_
    exact QH_round hBase hE hS (l118, A120, c121) (List.Sublist.cons _ (List.Sublist.cons_cons _ (List.Sublist.cons_cons _ (List.Sublist.cons_cons _ (List.Sublist.cons_cons _ (List.Sublist.cons_cons _ (List.Sublist.cons_cons _ (List.Sublist.cons_cons _ List.Sublist.slnil)))))))) ⟨k122, H⟩
  · rintro ⟨v97, A98, c99⟩ A ⟨k100, H⟩ hS
    dsimp only at hS k100 H ⊢
    rw [List.drop_length, m_manifest_Take_r1] at H
    refine QH_block_normal ?_
    refine QH_seq_k hK86 ?_
    refine wpC_seq_k (fun K hK124 => ?_)
    refine wpC_seq_k (fun K hK125 => ?_)
    refine wpC_region ?_
    refine wpS_put rfl rfl rfl (yv_load_boxA ag_50 rfl (RW.here _) hS hs7 trivial sg0_6) ?_
    obtain ⟨r126, hm127, H⟩ := bind_some H
    refine wpS_call rfl rfl rfl rfl (by kernel_rfl) rfl (c_manifest_Put (⟨e71, e74, e77, (⟨e80, e83⟩ : Rf), v97⟩ : Mf) A98 c99 _ (SlI.of_rd k100 (hS.row_rd hs1) (hS.row_blk hs1)) (SlI.of_rd hT_.k (hS.rd0 hT_.rd) (hS.blk0 hT_.blk)) hm127) ?_
    rintro e w ⟨A128, c129, rfl, k130, hN⟩; refine ⟨_, rfl, ?_⟩; have hB := hN.pure; have hS := hS.join hN; clear hN
    refine wpS_quick 1 rfl ?_
    refine wpS_put rfl rfl rfl (yv_extract rfl rfl) ?_
    refine wpS_put rfl rfl rfl (yv_extract rfl rfl) ?_
    refine wpS_quick 2 rfl ?_
    refine wpS_nil ?_
    refine QH_seq_k hK125 ?_
    refine wpC_seq_k (fun K hK132 => ?_)
    refine wpC_region ?_
    refine wpS_quick 1 rfl ?_
    refine wpS_put rfl rfl rfl (yv_eql rfl rfl) ?_
    refine wpS_quick 1 rfl ?_
    refine wpS_case 99 rfl (fun hb => ?_) (fun hb => ?_)
    rotate_left
    · replace H := cond_f H hb
      refine wpS_quick 4 rfl ?_
      refine wpS_nil ?_
      refine QH_seq_k hK132 ?_
      refine wpC_cond_f rfl rfl ?_
      refine wpC_skip ?_
      refine QH_seq_k hK124 ?_
      refine wpC_seq_k (fun K hK142 => ?_)
      refine wpC_label ?_
      refine QH_seq_k hK142 ?_
      refine wpC_seq_k (fun K hK143 => ?_)
      refine wpC_region ?_
      refine wpS_put rfl rfl rfl (yv_build (cells := [.int .i64 0, .int .i64 0, .int .i64 0, .int .i64 0, .int .i64 0, .slice none 0 0]) rfl (by kernel_rfl)) ?_
      refine wpS_store rfl rfl rfl CellsOf.agg hS ps8 st0_6 (by kernel_rfl) rfl (fun w hS hB => ?_)
      refine wpS_quick 1 rfl ?_
      refine wpS_nil ?_
      refine QH_seq_k hK143 ?_
      refine wpC_ret ?_
      refine QH_jmp_ret ?_
      refine QH_shut (.inl rfl) hS ps1 (fun w hS => ?_)
      replace hS := hS.sub (List.Sublist.cons_cons _ (List.Sublist.cons _ (List.Sublist.cons_cons _ (List.Sublist.cons_cons _ (List.Sublist.cons_cons _ (List.Sublist.cons_cons _ (List.Sublist.cons_cons _ (List.Sublist.cons_cons _ (List.Sublist.cons_cons _ List.Sublist.slnil)))))))))
      refine QH_ret rfl (RV.cell rfl (load_boxA ag_50 hS hs7 sg0_6) (RV.tmp rfl RV.nil)) rfl ?_
      obtain rfl := Option.some.inj H
      have hS := hS.nilRow 66 4
      replace hS := hS.cut 1
      exact ⟨none, 0, rfl, ⟨Nat.le_refl _, Nat.zero_le _⟩, hS⟩
    replace H := cond_t H hb
    refine wpS_quick 2 rfl ?_
    obtain ⟨r134, hm135, H⟩ := bind_some H
    refine wpS_call rfl rfl rfl rfl (by kernel_rfl) rfl (c_bytes_Equal x0 r126.1 A0_ c0_ A128 c129 _ (SlI.of_rd s0_.k (hS.rd0 s0_.rd) (hS.blk0 s0_.blk)) (SlI.of_rd k130 (hS.row_rd hs0) (hS.row_blk hs0)) hm135) ?_
    rintro e w ⟨rfl, hN⟩; refine ⟨_, rfl, ?_⟩; have hB := hN.pure; have hS := hS.join hN; clear hN
    refine wpS_quick 1 rfl ?_
    refine wpS_nil ?_
    refine QH_seq_k hK132 ?_
    refine wpC_cond rfl (fun hb => ?_) (fun hb => ?_)
    · replace H := cond_t H hb
      refine wpC_seq_k (fun K hK137 => ?_)
      refine wpC_region ?_
      refine wpS_put rfl rfl rfl (yv_load_boxA ag_50 rfl (RW.here _) hS hs8 trivial sg0_6) ?_
      refine wpS_store rfl rfl rfl CellsOf.agg hS ps8 st0_6 (by kernel_rfl) rfl (fun w hS hB => ?_)
      refine wpS_quick 1 rfl ?_
      refine wpS_nil ?_
      refine QH_seq_k hK137 ?_
      refine wpC_ret ?_
      refine QH_then_ret ?_
      refine QH_jmp_ret ?_
      refine QH_shut (.inl rfl) hS ps1 (fun w hS => ?_)
      replace hS := hS.sub (List.Sublist.cons_cons _ (List.Sublist.cons _ (List.Sublist.cons_cons _ (List.Sublist.cons_cons _ (List.Sublist.cons_cons _ (List.Sublist.cons_cons _ (List.Sublist.cons_cons _ (List.Sublist.cons_cons _ (List.Sublist.cons_cons _ List.Sublist.slnil)))))))))
      refine QH_ret rfl (RV.cell rfl (load_boxA ag_50 hS hs7 sg0_6) (RV.tmp rfl RV.nil)) rfl ?_
      obtain rfl := Option.some.inj H
      have hS := hS.front 1 rfl
      replace hS := hS.cut 1
      exact ⟨A98, c99, rfl, k100, hS⟩
    replace H := cond_f H hb
    refine wpC_skip ?_
    refine QH_seq_k hK124 ?_
    refine wpC_seq_k (fun K hK139 => ?_)
    refine wpC_label ?_
    refine QH_seq_k hK139 ?_
    refine wpC_seq_k (fun K hK140 => ?_)
    refine wpC_region ?_
    refine wpS_put rfl rfl rfl (yv_build (cells := [.int .i64 0, .int .i64 0, .int .i64 0, .int .i64 0, .int .i64 0, .slice none 0 0]) rfl (by kernel_rfl)) ?_
    refine wpS_store rfl rfl rfl CellsOf.agg hS ps8 st0_6 (by kernel_rfl) rfl (fun w hS hB => ?_)
    refine wpS_quick 1 rfl ?_
    refine wpS_nil ?_
    refine QH_seq_k hK140 ?_
    refine wpC_ret ?_
    refine QH_jmp_ret ?_
    refine QH_shut (.inl rfl) hS ps1 (fun w hS => ?_)
    replace hS := hS.sub (List.Sublist.cons_cons _ (List.Sublist.cons _ (List.Sublist.cons_cons _ (List.Sublist.cons_cons _ (List.Sublist.cons_cons _ (List.Sublist.cons_cons _ (List.Sublist.cons_cons _ (List.Sublist.cons_cons _ (List.Sublist.cons_cons _ List.Sublist.slnil)))))))))
    refine QH_ret rfl (RV.cell rfl (load_boxA ag_50 hS hs7 sg0_6) (RV.tmp rfl RV.nil)) rfl ?_
    obtain rfl := Option.some.inj H
    have hS := hS.nilRow 66 4
    replace hS := hS.cut 1
    exact ⟨none, 0, rfl, ⟨Nat.le_refl _, Nat.zero_le _⟩, hS⟩
theorem c_manifest_Open (x0 : Mf) (A0_ : Option Addr) (c0_ : Nat) (w0 : World) (s0_ : SlI w0 enSg A0_ c0_ x0.segs) {r : Int × Bool} (H : m_manifest_Open x0 = some r) : Calls Tryd.prog 38 #[.agg #[.int .i64 x0.next, .int .i64 x0.term, .int .i64 x0.vote, .int .i64 x0.snap.seq, .int .i64 x0.snap.fmt, .slice A0_ x0.segs.length c0_]] w0 fun e w' => e = .returned (.tuple #[.int .i64 r.1, .bool r.2]) ∧ St0 All w0 w' [] := by
  unfold m_manifest_Open at H
  refine gw_enter1 Tryd.func38 rfl Tryd.ntmps38 rfl ?_
  have hS := St0.start All w0
  refine wpC_seq_k (fun K hK1 => ?_)
  refine wpC_region ?_
  refine wpS_box rfl rfl rfl CellsOf.agg hS (fun b2 w hS hB => ?_)
  refine wpS_quick 2 rfl ?_
  refine wpS_nil ?_
  refine QH_seq_k hK1 ?_
  refine wpC_seq_k (fun K hK4 => ?_)
  refine wpC_seq_k (fun K hK5 => ?_)
  refine wpC_region ?_
  refine wpS_put rfl rfl rfl (yv_fieldAddr fo_50_4 rfl) ?_
  refine wpS_put rfl rfl rfl (yv_load_box sc_48 rfl (RW.here _) hS hs0 trivial sg5_1) ?_
  refine wpS_put rfl rfl rfl (yv_len el_48 rfl) ?_
  refine wpS_put rfl rfl rfl (yx_sub rfl rfl) ?_
  refine wpS_quick 1 rfl ?_
  refine wpS_nil ?_
  refine QH_seq_k hK5 ?_
  refine wpC_seq_k (fun K hK6 => ?_)
  refine wpC_region ?_
  refine wpS_quick 1 rfl ?_
  refine wpS_put rfl rfl rfl (yv_lss rfl rfl) ?_
  refine wpS_quick 1 rfl ?_
  refine wpS_case 10 rfl (fun hb => ?_) (fun hb => ?_)
  · replace H := cond_t H hb
    refine wpS_quick 8 rfl ?_
    refine wpS_nil ?_
    refine QH_seq_k hK6 ?_
    refine wpC_cond_t rfl rfl ?_
    refine wpC_seq_k (fun K hK8 => ?_)
    refine wpC_region ?_
    refine wpS_quick 2 rfl ?_
    refine wpS_nil ?_
    refine QH_seq_k hK8 ?_
    refine wpC_ret ?_
    refine QH_then_ret ?_
    refine QH_ret rfl (RV.tmp rfl (RV.tmp rfl RV.nil)) rfl ?_
    obtain rfl := Option.some.inj H
    replace hS := hS.cut 0
    exact ⟨rfl, hS⟩
  replace H := cond_f H hb
  refine wpS_put rfl rfl rfl (yv_fieldAddr fo_50_4 rfl) ?_
  refine wpS_put rfl rfl rfl (yv_load_box sc_48 rfl (RW.here _) hS hs0 trivial sg5_1) ?_
  refine wpS_quick 1 rfl ?_
  obtain ⟨e10, hi12, H⟩ := bind_some H
  obtain ⟨j11, hi12a, hi12b, hi12c⟩ := idx_some hi12
  refine wpS_put rfl rfl rfl (yx_idx el_48 rfl rfl hi12a hi12c (Rd.el (hS.rd0 s0_.rd) he_enSg hi12b)) ?_
  refine wpS_put rfl rfl rfl (yx_fieldAddr fo_66_3 rfl (Rd.el (hS.rd0 s0_.rd) he_enSg hi12b)) ?_
  refine wpS_put rfl rfl rfl (yx_ld sc_3 rfl (RW.here _) (Rd.el (hS.rd0 s0_.rd) he_enSg hi12b) rfl) ?_
  refine wpS_put rfl rfl rfl (yv_neq rfl rfl) ?_
  refine wpS_quick 1 rfl ?_
  refine wpS_nil ?_
  refine QH_seq_k hK6 ?_
  refine wpC_cond rfl (fun hb => ?_) (fun hb => ?_)
  · replace H := cond_t H hb
    refine wpC_seq_k (fun K hK14 => ?_)
    refine wpC_region ?_
    refine wpS_quick 2 rfl ?_
    refine wpS_nil ?_
    refine QH_seq_k hK14 ?_
    refine wpC_ret ?_
    refine QH_then_ret ?_
    refine QH_ret rfl (RV.tmp rfl (RV.tmp rfl RV.nil)) rfl ?_
    obtain rfl := Option.some.inj H
    replace hS := hS.cut 0
    exact ⟨rfl, hS⟩
  replace H := cond_f H hb
  refine wpC_skip ?_
  refine QH_seq_k hK4 ?_
  refine wpC_seq_k (fun K hK16 => ?_)
  refine wpC_region ?_
  refine wpS_quick 3 rfl ?_
  refine wpS_nil ?_
  refine QH_seq_k hK16 ?_
  refine wpC_ret ?_
  refine QH_ret rfl (RV.tmp rfl (RV.tmp rfl RV.nil)) rfl ?_
  obtain rfl := Option.some.inj H
  replace hS := hS.cut 0
  exact ⟨rfl, hS⟩
theorem c_manifest_Keep (x0 : Mf) (A0_ : Option Addr) (c0_ : Nat) (w0 : World) (s0_ : SlI w0 enSg A0_ c0_ x0.segs) {r : List Id} (H : m_manifest_Keep x0 = some r) : Calls Tryd.prog 36 #[.agg #[.int .i64 x0.next, .int .i64 x0.term, .int .i64 x0.vote, .int .i64 x0.snap.seq, .int .i64 x0.snap.fmt, .slice A0_ x0.segs.length c0_]] w0 fun e w' => ∃ (A0 : Option Addr) (c0 : Nat), e = .returned (.slice A0 r.length c0) ∧ (r.length ≤ c0 ∧ c0 ≤ maxLen) ∧ St0 All w0 w' [.row (.slice A0 r.length c0) 62 3 r.length (encs enId r)] := by
  unfold m_manifest_Keep at H
  refine gw_enter1 Tryd.func36 rfl Tryd.ntmps36 rfl ?_
  have hS := St0.start All w0
  refine wpC_seq_k (fun K hK1 => ?_)
  refine wpC_region ?_
  refine wpS_box rfl rfl rfl CellsOf.agg hS (fun b2 w hS hB => ?_)
  refine wpS_quick 1 rfl ?_
  refine wpS_nil ?_
  refine QH_seq_k hK1 ?_
  refine wpC_seq_k (fun K hK4 => ?_)
  refine wpC_region ?_
  refine wpS_put rfl rfl rfl (yv_build (cells := [.int .u8 1, .int .i64 0, .int .i64 0]) rfl (by kernel_rfl)) ?_
  refine wpS_sliceM (ps := [(0, .tmp 6)]) [.int .u8 1, .int .i64 0, .int .i64 0] el_58 zc_62 rfl rfl rfl rfl rfl (by kernel_rfl) hS (fun b5 w hS hB => ?_)
  refine wpS_quick 1 rfl ?_
  refine wpS_nil ?_
  refine QH_seq_k hK4 ?_
  refine wpC_seq_k (fun K hK7 => ?_)
  refine wpC_seq_k (fun K hK8 => ?_)
  refine wpC_region ?_
  refine wpS_put rfl rfl rfl (yv_fieldAddr fo_50_3 rfl) ?_
  refine wpS_put rfl rfl rfl (yv_fieldAddr fo_47_0 rfl) ?_
  refine wpS_put rfl rfl rfl (yv_load_box sc_3 rfl (RW.here _) hS hs1 trivial sg3_1) ?_
  refine wpS_put rfl rfl rfl (yv_neq rfl rfl) ?_
  refine wpS_nil ?_
  refine QH_seq_k hK8 ?_
  refine wpC_cond rfl (fun hb => ?_) (fun hb => ?_)
  rotate_left
  · replace H := cond_f H hb
    refine wpC_skip ?_
    refine QH_seq_k hK7 ?_
    refine wpC_seq_k (fun K hK44 => ?_)
    refine wpC_seq_k (fun K hK45 => ?_)
    refine wpC_region ?_
    refine wpS_put rfl rfl rfl (yv_fieldAddr fo_50_4 rfl) ?_
    refine wpS_put rfl rfl rfl (yv_load_box sc_48 rfl (RW.here _) hS hs1 trivial sg5_1) ?_
    refine wpS_put rfl rfl rfl (yv_len el_48 rfl) ?_
    refine wpS_quick 1 rfl ?_
    refine wpS_nil ?_
    refine QH_seq_k hK45 ?_
    refine wpC_block ?_
    replace hS := hS.front 0 rfl
    replace hS := hS.weak (Weak.boxRow (cs := encs enId ([(⟨1, 0, 0⟩ : Id)] : List Id)) (n := 1) (size := 3) rfl (by decide))
    refine wpC_loop (X := Nat × List Id × Option Addr × Nat × Int) (fun x => (2, .slice none 0 0) :: (3, .slice x.2.2.1 x.2.1.length x.2.2.2.1) :: (23, .slice A0_ x0.segs.length c0_) :: (24, .int .i64 (x0.segs.length : Int)) :: (25, .int .i64 x.2.2.2.2) :: []) (fun x w => St0 All w0 w (.row (.slice x.2.2.1 x.2.1.length x.2.2.2.1) 62 3 x.2.1.length (encs enId x.2.1) :: .box b2 [.int .i64 x0.next, .int .i64 x0.term, .int .i64 x0.vote, .int .i64 x0.snap.seq, .int .i64 x0.snap.fmt, .slice A0_ x0.segs.length c0_] 50 :: []) ∧ (x.2.1.length ≤ x.2.2.2.1 ∧ x.2.2.2.1 ≤ maxLen) ∧ m_manifest_Keep_l2 x0 x.1 x.2.1 x.2.2.2.2 = some r) (fun x => x.1) (fuelN, ([(⟨1, 0, 0⟩ : Id)] : List Id), (some ⟨b5, 0, none⟩), 1, 0) (by repeat (first | exact Sub.nil | refine Sub.cons rfl ?_)) ⟨hS, (show 1 ≤ 1 ∧ 1 ≤ maxLen from ⟨Nat.le_refl 1, by decide⟩), H⟩ ?_
    rintro ⟨n, v46, A47, c48, v50⟩ w ⟨hS, k49, H⟩
    dsimp only at hS k49 H ⊢
    obtain _ | n := n
    · have H0 : none = some r := H
      cases H0
    rw [m_manifest_Keep_l2] at H
    refine wpC_seq_k (fun K hK51 => ?_)
    refine wpC_region ?_
    refine wpS_put rfl rfl rfl (yv_lss rfl rfl) ?_
    refine wpS_nil ?_
    refine QH_seq_k hK51 ?_
    refine wpC_seq_k (fun K hK52 => ?_)
    refine wpC_cond rfl (fun hb => ?_) (fun hb => ?_)
    rotate_left
    · replace H := cond_f H hb
      refine wpC_exit ?_
      refine QH_then_exit ?_
      refine QH_then_exit ?_
      refine QH_block_hit ?_
      refine QH_seq_k hK44 ?_
      refine wpC_seq_k (fun K hK69 => ?_)
      refine wpC_region ?_
      refine wpS_quick 2 rfl ?_
      refine wpS_nil ?_
      refine QH_seq_k hK69 ?_
      refine wpC_ret ?_
      refine QH_ret rfl (RV.tmp rfl RV.nil) rfl ?_
      obtain rfl := Option.some.inj H
      have hS := hS.front 0 rfl
      replace hS := hS.cut 1
      exact ⟨A47, c48, rfl, k49, hS⟩
    replace H := cond_t H hb
    refine wpC_skip ?_
    refine QH_seq_k hK52 ?_
    refine wpC_seq_k (fun K hK54 => ?_)
    refine wpC_block ?_
    refine wpC_seq_k (fun K hK55 => ?_)
    refine wpC_region ?_
    obtain ⟨e56, hi58, H⟩ := bind_some H
    obtain ⟨j57, hi58a, hi58b, hi58c⟩ := idx_some hi58
    refine wpS_put rfl rfl rfl (yx_idx el_48 rfl rfl hi58a hi58c (Rd.el (hS.rd0 s0_.rd) he_enSg hi58b)) ?_
    refine wpS_put rfl rfl rfl (yx_ldA0 ag_66 rfl (RW.here _) (Rd.el (hS.rd0 s0_.rd) he_enSg hi58b) sg0_4) ?_
    refine wpS_alloc rfl rfl zc_66 hS (fun b59 w hS hB => ?_)
    refine wpS_store rfl rfl rfl CellsOf.agg hS ps0 st0_4 (by kernel_rfl) rfl (fun w hS hB => ?_)
    refine wpS_nil ?_
    refine QH_seq_k hK55 ?_
    refine wpC_region ?_
    refine wpS_quick 1 rfl ?_
    refine wpS_put rfl rfl rfl (yv_fieldAddr fo_66_0 rfl) ?_
    refine wpS_put rfl rfl rfl (yv_load_box sc_3 rfl (RW.here _) hS hs0 trivial sg0_1) ?_
    refine wpS_put rfl rfl rfl (yv_fieldAddr fo_66_1 rfl) ?_
    refine wpS_put rfl rfl rfl (yv_load_box sc_3 rfl (RW.here _) hS hs0 trivial sg1_1) ?_
    refine wpS_put rfl rfl rfl (yv_build (cells := [.int .u8 3, .int .i64 e56.seq, .int .i64 e56.fmt]) rfl (by kernel_rfl)) ?_
    refine wpS_sliceM (ps := [(0, .tmp 34)]) [.int .u8 3, .int .i64 e56.seq, .int .i64 e56.fmt] el_58 zc_62 rfl rfl rfl rfl rfl (by kernel_rfl) hS (fun b61 w hS hB => ?_)
    obtain ⟨l63, hf64, H⟩ := bind_some H
    refine wpX_append (ys := ([(⟨3, e56.seq, e56.fmt⟩ : Id)] : List Id)) he_enId oc_enId em_58 (by decide) rfl rfl rfl rfl hS (fun _ => ps2) (hS.box_rd hs0) hf64 (fun A65 c66 w k67 hS => ?_)
    refine wpS_quick 1 rfl ?_
    refine wpS_nil ?_
    refine QH_block_normal ?_
    refine QH_seq_k hK54 ?_
    refine wpC_region ?_
    refine wpS_put rfl rfl rfl (yx_add rfl rfl) ?_
    refine wpS_quick 1 rfl ?_
    refine wpS_nil ?_
    exact QH_again (n, l63, A65, c66, (IntKind.wrap .i64 (v50 + 1))) (by repeat (first | exact Sub.nil | refine Sub.cons rfl ?_)) ⟨(hS.sub (List.Sublist.cons _ (List.Sublist.cons _ (List.Sublist.cons_cons _ (List.Sublist.cons_cons _ List.Sublist.slnil))))), k67, H⟩ (Nat.lt_succ_self _)
  replace H := cond_t H hb
  refine wpC_region ?_
  refine wpS_quick 1 rfl ?_
  refine wpS_put rfl rfl rfl (yv_fieldAddr fo_50_3 rfl) ?_
  refine wpS_put rfl rfl rfl (yv_fieldAddr fo_47_0 rfl) ?_
  refine wpS_put rfl rfl rfl (yv_load_box sc_3 rfl (RW.here _) hS hs1 trivial sg3_1) ?_
  refine wpS_put rfl rfl rfl (yv_fieldAddr fo_50_3 rfl) ?_
  refine wpS_put rfl rfl rfl (yv_fieldAddr fo_47_1 rfl) ?_
  refine wpS_put rfl rfl rfl (yv_load_box sc_3 rfl (RW.here _) hS hs1 trivial sg4_1) ?_
  refine wpS_put rfl rfl rfl (yv_build (cells := [.int .u8 4, .int .i64 x0.snap.seq, .int .i64 x0.snap.fmt]) rfl (by kernel_rfl)) ?_
  refine wpS_sliceM (ps := [(0, .tmp 19)]) [.int .u8 4, .int .i64 x0.snap.seq, .int .i64 x0.snap.fmt] el_58 zc_62 rfl rfl rfl rfl rfl (by kernel_rfl) hS (fun b10 w hS hB => ?_)
  replace hS := hS.front 1 rfl
  replace hS := hS.weak (Weak.boxRow (cs := encs enId ([(⟨1, 0, 0⟩ : Id)] : List Id)) (n := 1) (size := 3) rfl (by decide))
  obtain ⟨l12, hf13, H⟩ := bind_some H
  refine wpX_append (ys := ([(⟨4, x0.snap.seq, x0.snap.fmt⟩ : Id)] : List Id)) he_enId oc_enId em_58 (by decide) rfl rfl rfl rfl hS (fun _ => ps0) (hS.box_rd hs1) hf13 (fun A14 c15 w k16 hS => ?_)
  refine wpS_quick 1 rfl ?_
  refine wpS_nil ?_
  refine QH_seq_k hK7 ?_
  refine wpC_seq_k (fun K hK17 => ?_)
  refine wpC_seq_k (fun K hK18 => ?_)
  refine wpC_region ?_
  refine wpS_put rfl rfl rfl (yv_fieldAddr fo_50_4 rfl) ?_
  refine wpS_put rfl rfl rfl (yv_load_box sc_48 rfl (RW.here _) hS hs2 trivial sg5_1) ?_
  refine wpS_put rfl rfl rfl (yv_len el_48 rfl) ?_
  refine wpS_quick 1 rfl ?_
  refine wpS_nil ?_
  refine QH_seq_k hK18 ?_
  refine wpC_block ?_
  refine wpC_loop (X := Nat × List Id × Option Addr × Nat × Int) (fun x => (2, .slice none 0 0) :: (3, .slice x.2.2.1 x.2.1.length x.2.2.2.1) :: (23, .slice A0_ x0.segs.length c0_) :: (24, .int .i64 (x0.segs.length : Int)) :: (25, .int .i64 x.2.2.2.2) :: []) (fun x w => St0 All w0 w (.row (.slice x.2.2.1 x.2.1.length x.2.2.2.1) 62 3 x.2.1.length (encs enId x.2.1) :: .box b10 [.int .u8 4, .int .i64 x0.snap.seq, .int .i64 x0.snap.fmt] 62 :: .box b2 [.int .i64 x0.next, .int .i64 x0.term, .int .i64 x0.vote, .int .i64 x0.snap.seq, .int .i64 x0.snap.fmt, .slice A0_ x0.segs.length c0_] 50 :: []) ∧ (x.2.1.length ≤ x.2.2.2.1 ∧ x.2.2.2.1 ≤ maxLen) ∧ m_manifest_Keep_l1 x0 x.1 x.2.1 x.2.2.2.2 = some r) (fun x => x.1) (fuelN, l12, A14, c15, 0) (by repeat (first | exact Sub.nil | refine Sub.cons rfl ?_)) ⟨hS, k16, H⟩ ?_
  rintro ⟨n, v19, A20, c21, v23⟩ w ⟨hS, k22, H⟩
  dsimp only at hS k22 H ⊢
  obtain _ | n := n
  · have H0 : none = some r := H
    cases H0
  rw [m_manifest_Keep_l1] at H
  refine wpC_seq_k (fun K hK24 => ?_)
  refine wpC_region ?_
  refine wpS_put rfl rfl rfl (yv_lss rfl rfl) ?_
  refine wpS_nil ?_
  refine QH_seq_k hK24 ?_
  refine wpC_seq_k (fun K hK25 => ?_)
  refine wpC_cond rfl (fun hb => ?_) (fun hb => ?_)
  rotate_left
  · replace H := cond_f H hb
    refine wpC_exit ?_
    refine QH_then_exit ?_
    refine QH_then_exit ?_
    refine QH_block_hit ?_
    refine QH_seq_k hK17 ?_
    refine wpC_seq_k (fun K hK42 => ?_)
    refine wpC_region ?_
    refine wpS_quick 2 rfl ?_
    refine wpS_nil ?_
    refine QH_seq_k hK42 ?_
    refine wpC_ret ?_
    refine QH_ret rfl (RV.tmp rfl RV.nil) rfl ?_
    obtain rfl := Option.some.inj H
    have hS := hS.front 0 rfl
    replace hS := hS.cut 1
    exact ⟨A20, c21, rfl, k22, hS⟩
  replace H := cond_t H hb
  refine wpC_skip ?_
  refine QH_seq_k hK25 ?_
  refine wpC_seq_k (fun K hK27 => ?_)
  refine wpC_block ?_
  refine wpC_seq_k (fun K hK28 => ?_)
  refine wpC_region ?_
  obtain ⟨e29, hi31, H⟩ := bind_some H
  obtain ⟨j30, hi31a, hi31b, hi31c⟩ := idx_some hi31
  refine wpS_put rfl rfl rfl (yx_idx el_48 rfl rfl hi31a hi31c (Rd.el (hS.rd0 s0_.rd) he_enSg hi31b)) ?_
  refine wpS_put rfl rfl rfl (yx_ldA0 ag_66 rfl (RW.here _) (Rd.el (hS.rd0 s0_.rd) he_enSg hi31b) sg0_4) ?_
  refine wpS_alloc rfl rfl zc_66 hS (fun b32 w hS hB => ?_)
  refine wpS_store rfl rfl rfl CellsOf.agg hS ps0 st0_4 (by kernel_rfl) rfl (fun w hS hB => ?_)
  refine wpS_nil ?_
  refine QH_seq_k hK28 ?_
  refine wpC_region ?_
  refine wpS_quick 1 rfl ?_
  refine wpS_put rfl rfl rfl (yv_fieldAddr fo_66_0 rfl) ?_
  refine wpS_put rfl rfl rfl (yv_load_box sc_3 rfl (RW.here _) hS hs0 trivial sg0_1) ?_
  refine wpS_put rfl rfl rfl (yv_fieldAddr fo_66_1 rfl) ?_
  refine wpS_put rfl rfl rfl (yv_load_box sc_3 rfl (RW.here _) hS hs0 trivial sg1_1) ?_
  refine wpS_put rfl rfl rfl (yv_build (cells := [.int .u8 3, .int .i64 e29.seq, .int .i64 e29.fmt]) rfl (by kernel_rfl)) ?_
  refine wpS_sliceM (ps := [(0, .tmp 34)]) [.int .u8 3, .int .i64 e29.seq, .int .i64 e29.fmt] el_58 zc_62 rfl rfl rfl rfl rfl (by kernel_rfl) hS (fun b34 w hS hB => ?_)
  obtain ⟨l36, hf37, H⟩ := bind_some H
  refine wpX_append (ys := ([(⟨3, e29.seq, e29.fmt⟩ : Id)] : List Id)) he_enId oc_enId em_58 (by decide) rfl rfl rfl rfl hS (fun _ => ps2) (hS.box_rd hs0) hf37 (fun A38 c39 w k40 hS => ?_)
  refine wpS_quick 1 rfl ?_
  refine wpS_nil ?_
  refine QH_block_normal ?_
  refine QH_seq_k hK27 ?_
  refine wpC_region ?_
  refine wpS_put rfl rfl rfl (yx_add rfl rfl) ?_
  refine wpS_quick 1 rfl ?_
  refine wpS_nil ?_
  exact QH_again (n, l36, A38, c39, (IntKind.wrap .i64 (v23 + 1))) (by repeat (first | exact Sub.nil | refine Sub.cons rfl ?_)) ⟨(hS.sub (List.Sublist.cons _ (List.Sublist.cons _ (List.Sublist.cons_cons _ (List.Sublist.cons_cons _ (List.Sublist.cons_cons _ List.Sublist.slnil)))))), k40, H⟩ (Nat.lt_succ_self _)
theorem c_ref11_Same (x0 : Mf) (x1 : Mf) (A0_ : Option Addr) (c0_ : Nat) (A1_ : Option Addr) (c1_ : Nat) (w0 : World) (s0_ : SlI w0 enSg A0_ c0_ x0.segs) (s1_ : SlI w0 enSg A1_ c1_ x1.segs) {r : Bool} (H : m_ref11_Same x0 x1 = some r) : Calls Tryd.prog 34 #[.agg #[.int .i64 x0.next, .int .i64 x0.term, .int .i64 x0.vote, .int .i64 x0.snap.seq, .int .i64 x0.snap.fmt, .slice A0_ x0.segs.length c0_], .agg #[.int .i64 x1.next, .int .i64 x1.term, .int .i64 x1.vote, .int .i64 x1.snap.seq, .int .i64 x1.snap.fmt, .slice A1_ x1.segs.length c1_]] w0 fun e w' => e = .returned (.bool r) ∧ St0 All w0 w' [] := by
  unfold m_ref11_Same at H
  refine gw_enter2 Tryd.func34 rfl Tryd.ntmps34 rfl ?_
  have hS := St0.start All w0
  refine wpC_seq_k (fun K hK1 => ?_)
  refine wpC_region ?_
  refine wpS_box rfl rfl rfl CellsOf.agg hS (fun b2 w hS hB => ?_)
  refine wpS_box rfl rfl rfl CellsOf.agg hS (fun b4 w hS hB => ?_)
  refine wpS_quick 1 rfl ?_
  refine wpS_nil ?_
  refine QH_seq_k hK1 ?_
  refine wpC_seq_k (fun K hK6 => ?_)
  refine wpC_seq_k (fun K hK7 => ?_)
  refine wpC_region ?_
  refine wpS_put rfl rfl rfl (yv_fieldAddr fo_50_0 rfl) ?_
  refine wpS_put rfl rfl rfl (yv_load_box sc_3 rfl (RW.here _) hS hs1 trivial sg0_1) ?_
  refine wpS_put rfl rfl rfl (yv_fieldAddr fo_50_0 rfl) ?_
  refine wpS_put rfl rfl rfl (yv_load_box sc_3 rfl (RW.here _) hS hs0 trivial sg0_1) ?_
  refine wpS_put rfl rfl rfl (yv_neq rfl rfl) ?_
  refine wpS_quick 1 rfl ?_
  refine wpS_case 11 rfl (fun hb => ?_) (fun hb => ?_)
  · replace H := cond_t H hb
    refine wpS_quick 29 rfl ?_
    refine wpS_nil ?_
    refine QH_seq_k hK7 ?_
    refine wpC_cond_t rfl rfl ?_
    refine wpC_seq_k (fun K hK9 => ?_)
    refine wpC_region ?_
    refine wpS_quick 1 rfl ?_
    refine wpS_nil ?_
    refine QH_seq_k hK9 ?_
    refine wpC_ret ?_
    refine QH_then_ret ?_
    refine QH_ret rfl (RV.tmp rfl RV.nil) rfl ?_
    obtain rfl := Option.some.inj H
    replace hS := hS.cut 0
    exact ⟨rfl, hS⟩
  replace H := cond_f H hb
  refine wpS_put rfl rfl rfl (yv_fieldAddr fo_50_1 rfl) ?_
  refine wpS_put rfl rfl rfl (yv_load_box sc_3 rfl (RW.here _) hS hs1 trivial sg1_1) ?_
  refine wpS_put rfl rfl rfl (yv_fieldAddr fo_50_1 rfl) ?_
  refine wpS_put rfl rfl rfl (yv_load_box sc_3 rfl (RW.here _) hS hs0 trivial sg1_1) ?_
  refine wpS_put rfl rfl rfl (yv_neq rfl rfl) ?_
  refine wpS_quick 2 rfl ?_
  refine wpS_case 18 rfl (fun hb => ?_) (fun hb => ?_)
  · replace H := cond_t H hb
    refine wpS_quick 22 rfl ?_
    refine wpS_nil ?_
    refine QH_seq_k hK7 ?_
    refine wpC_cond_t rfl rfl ?_
    refine wpC_seq_k (fun K hK12 => ?_)
    refine wpC_region ?_
    refine wpS_quick 1 rfl ?_
    refine wpS_nil ?_
    refine QH_seq_k hK12 ?_
    refine wpC_ret ?_
    refine QH_then_ret ?_
    refine QH_ret rfl (RV.tmp rfl RV.nil) rfl ?_
    obtain rfl := Option.some.inj H
    replace hS := hS.cut 0
    exact ⟨rfl, hS⟩
  replace H := cond_f H hb
  refine wpS_put rfl rfl rfl (yv_fieldAddr fo_50_2 rfl) ?_
  refine wpS_put rfl rfl rfl (yv_load_box sc_3 rfl (RW.here _) hS hs1 trivial sg2_1) ?_
  refine wpS_put rfl rfl rfl (yv_fieldAddr fo_50_2 rfl) ?_
  refine wpS_put rfl rfl rfl (yv_load_box sc_3 rfl (RW.here _) hS hs0 trivial sg2_1) ?_
  refine wpS_put rfl rfl rfl (yv_neq rfl rfl) ?_
  refine wpS_quick 2 rfl ?_
  refine wpS_case 25 rfl (fun hb => ?_) (fun hb => ?_)
  · replace H := cond_t H hb
    refine wpS_quick 15 rfl ?_
    refine wpS_nil ?_
    refine QH_seq_k hK7 ?_
    refine wpC_cond_t rfl rfl ?_
    refine wpC_seq_k (fun K hK15 => ?_)
    refine wpC_region ?_
    refine wpS_quick 1 rfl ?_
    refine wpS_nil ?_
    refine QH_seq_k hK15 ?_
    refine wpC_ret ?_
    refine QH_then_ret ?_
    refine QH_ret rfl (RV.tmp rfl RV.nil) rfl ?_
    obtain rfl := Option.some.inj H
    replace hS := hS.cut 0
    exact ⟨rfl, hS⟩
  replace H := cond_f H hb
  refine wpS_put rfl rfl rfl (yv_fieldAddr fo_50_3 rfl) ?_
  refine wpS_put rfl rfl rfl (yv_load_boxA ag_47 rfl (RW.here _) hS hs1 trivial sg3_2) ?_
  refine wpS_put rfl rfl rfl (yv_fieldAddr fo_50_3 rfl) ?_
  refine wpS_put rfl rfl rfl (yv_load_boxA ag_47 rfl (RW.here _) hS hs0 trivial sg3_2) ?_
  refine wpS_put rfl rfl rfl (yv_neqS (by kernel_rfl) rfl rfl (eqT_47 _ _ _ _)) ?_
  refine wpS_quick 2 rfl ?_
  refine wpS_case 32 rfl (fun hb => ?_) (fun hb => ?_)
  · replace H := cond_t H hb
    refine wpS_quick 8 rfl ?_
    refine wpS_nil ?_
    refine QH_seq_k hK7 ?_
    refine wpC_cond_t rfl rfl ?_
    refine wpC_seq_k (fun K hK18 => ?_)
    refine wpC_region ?_
    refine wpS_quick 1 rfl ?_
    refine wpS_nil ?_
    refine QH_seq_k hK18 ?_
    refine wpC_ret ?_
    refine QH_then_ret ?_
    refine QH_ret rfl (RV.tmp rfl RV.nil) rfl ?_
    obtain rfl := Option.some.inj H
    replace hS := hS.cut 0
    exact ⟨rfl, hS⟩
  replace H := cond_f H hb
  refine wpS_put rfl rfl rfl (yv_fieldAddr fo_50_4 rfl) ?_
  refine wpS_put rfl rfl rfl (yv_load_box sc_48 rfl (RW.here _) hS hs1 trivial sg5_1) ?_
  refine wpS_put rfl rfl rfl (yv_len el_48 rfl) ?_
  refine wpS_put rfl rfl rfl (yv_fieldAddr fo_50_4 rfl) ?_
  refine wpS_put rfl rfl rfl (yv_load_box sc_48 rfl (RW.here _) hS hs0 trivial sg5_1) ?_
  refine wpS_put rfl rfl rfl (yv_len el_48 rfl) ?_
  refine wpS_put rfl rfl rfl (yv_neq rfl rfl) ?_
  refine wpS_quick 1 rfl ?_
  refine wpS_nil ?_
  refine QH_seq_k hK7 ?_
  refine wpC_cond rfl (fun hb => ?_) (fun hb => ?_)
  · replace H := cond_t H hb
    refine wpC_seq_k (fun K hK21 => ?_)
    refine wpC_region ?_
    refine wpS_quick 1 rfl ?_
    refine wpS_nil ?_
    refine QH_seq_k hK21 ?_
    refine wpC_ret ?_
    refine QH_then_ret ?_
    refine QH_ret rfl (RV.tmp rfl RV.nil) rfl ?_
    obtain rfl := Option.some.inj H
    replace hS := hS.cut 0
    exact ⟨rfl, hS⟩
  replace H := cond_f H hb
  refine wpC_skip ?_
  refine QH_seq_k hK6 ?_
  refine wpC_seq_k (fun K hK23 => ?_)
  refine wpC_seq_k (fun K hK24 => ?_)
  refine wpC_region ?_
  refine wpS_quick 1 rfl ?_
  refine wpS_nil ?_
  refine QH_seq_k hK24 ?_
  refine wpC_block ?_
  refine wpC_loop (X := Nat × Bool × Int) (fun x => (2, .pointer (some ⟨b2, 0, none⟩)) :: (3, .pointer (some ⟨b4, 0, none⟩)) :: (4, .bool x.2.1) :: (5, .int .i64 x.2.2) :: []) (fun x w => St0 All w0 w (.box b4 [.int .i64 x1.next, .int .i64 x1.term, .int .i64 x1.vote, .int .i64 x1.snap.seq, .int .i64 x1.snap.fmt, .slice A1_ x1.segs.length c1_] 50 :: .box b2 [.int .i64 x0.next, .int .i64 x0.term, .int .i64 x0.vote, .int .i64 x0.snap.seq, .int .i64 x0.snap.fmt, .slice A0_ x0.segs.length c0_] 50 :: []) ∧ m_ref11_Same_l1 x0 x1 x.1 x.2.1 x.2.2 = some r) (fun x => x.1) (fuelN, false, 0) (by repeat (first | exact Sub.nil | refine Sub.cons rfl ?_)) ⟨hS, H⟩ ?_
  rintro ⟨n, v25, v26⟩ w ⟨hS, H⟩
  dsimp only at hS H ⊢
  obtain _ | n := n
  · have H0 : none = some r := H
    cases H0
  rw [m_ref11_Same_l1] at H
  refine wpC_seq_k (fun K hK27 => ?_)
  refine wpC_seq_k (fun K hK28 => ?_)
  refine wpC_region ?_
  refine wpS_quick 1 rfl ?_
  refine wpS_put rfl rfl rfl (yv_fieldAddr fo_50_4 rfl) ?_
  refine wpS_put rfl rfl rfl (yv_load_box sc_48 rfl (RW.here _) hS hs1 trivial sg5_1) ?_
  refine wpS_put rfl rfl rfl (yv_len el_48 rfl) ?_
  refine wpS_put rfl rfl rfl (yv_lss rfl rfl) ?_
  refine wpS_nil ?_
  refine QH_seq_k hK28 ?_
  refine wpC_cond rfl (fun hb => ?_) (fun hb => ?_)
  rotate_left
  · replace H := cond_f H hb
    refine wpC_exit ?_
    refine QH_then_exit ?_
    refine QH_then_exit ?_
    refine QH_block_hit ?_
    refine QH_seq_k hK23 ?_
    refine wpC_seq_k (fun K hK42 => ?_)
    refine wpC_region ?_
    refine wpS_quick 1 rfl ?_
    refine wpS_nil ?_
    refine QH_seq_k hK42 ?_
    refine wpC_ret ?_
    refine QH_ret rfl (RV.tmp rfl RV.nil) rfl ?_
    obtain rfl := Option.some.inj H
    replace hS := hS.cut 0
    exact ⟨rfl, hS⟩
  replace H := cond_t H hb
  refine wpC_skip ?_
  refine QH_seq_k hK27 ?_
  refine wpC_seq_k (fun K hK30 => ?_)
  refine wpC_block ?_
  refine wpC_seq_k (fun K hK31 => ?_)
  refine wpC_draw 11 [] (fun _ _ => True) ⟨by kernel_rfl, by kernel_rfl⟩ hS (fun w hS hB => ?_)
  refine wpR_batch [true, true, true, true, true, true, true, true, true, true, true] (by decide +kernel) (by repeat (first | exact PF.body | exact PF.round | apply PF.then | apply PF.inBlock | apply PF.jump)) ?_
  refine LtK.put rfl rfl rfl (yv_fieldAddr fo_50_4 rfl) ?_
  refine LtK.put rfl rfl rfl (yv_load_box sc_48 rfl (RW.below _) hS hs1 trivial sg5_1) ?_
  refine LtK.put rfl rfl rfl (yv_move rfl) ?_
  obtain ⟨e32, hi34, H⟩ := bind_some H
  obtain ⟨j33, hi34a, hi34b, hi34c⟩ := idx_some hi34
  refine LtK.put rfl rfl rfl (yx_idx el_48 rfl rfl hi34a hi34c (Rd.el (hS.rd0 s0_.rd) he_enSg hi34b)) ?_
  refine LtK.put rfl rfl rfl (yx_ldA0 ag_66 rfl (RW.below _) (Rd.el (hS.rd0 s0_.rd) he_enSg hi34b) sg0_4) ?_
  refine LtK.put rfl rfl rfl (yv_fieldAddr fo_50_4 rfl) ?_
  refine LtK.put rfl rfl rfl (yv_load_box sc_48 rfl (RW.below _) hS hs0 trivial sg5_1) ?_
  refine LtK.put rfl rfl rfl (yv_move rfl) ?_
  obtain ⟨e35, hi37, H⟩ := bind_some H
  obtain ⟨j36, hi37a, hi37b, hi37c⟩ := idx_some hi37
  refine LtK.put rfl rfl rfl (yx_idx el_48 rfl rfl hi37a hi37c (Rd.el (hS.rd0 s1_.rd) he_enSg hi37b)) ?_
  refine LtK.put rfl rfl rfl (yx_ldA0 ag_66 rfl (RW.below _) (Rd.el (hS.rd0 s1_.rd) he_enSg hi37b) sg0_4) ?_
  refine LtK.put rfl rfl rfl (yv_neqS (by kernel_rfl) rfl rfl (eqT_66 _ _ _ _ _ _ _ _)) ?_
  refine LtK.nil ?_
  refine wpR_end (by kernel_rfl) ?_
  refine QH_seq_k hK31 ?_
  refine wpC_cond rfl (fun hb => ?_) (fun hb => ?_)
  rotate_left
  · replace H := cond_f H hb
    refine wpC_skip ?_
    refine QH_block_normal ?_
    refine QH_seq_k hK30 ?_
    refine wpC_region ?_
    refine wpS_quick 1 rfl ?_
    refine wpS_put rfl rfl rfl (yx_add rfl rfl) ?_
    refine wpS_quick 1 rfl ?_
    refine wpS_nil ?_
    exact QH_again (n, v25, (IntKind.wrap .i64 (v26 + 1))) (by repeat (first | exact Sub.nil | refine Sub.cons rfl ?_)) ⟨hS, H⟩ (Nat.lt_succ_self _)
  replace H := cond_t H hb
  refine wpC_seq_k (fun K hK39 => ?_)
  refine wpC_region ?_
  refine wpS_quick 1 rfl ?_
  refine wpS_nil ?_
  refine QH_seq_k hK39 ?_
  refine wpC_ret ?_
  refine QH_block_ret ?_
  refine QH_then_ret ?_
  refine QH_then_ret ?_
  refine QH_block_ret ?_
  refine QH_then_ret ?_
  refine QH_ret rfl (RV.tmp rfl RV.nil) rfl ?_
  obtain rfl := Option.some.inj H
  replace hS := hS.cut 0
  exact ⟨rfl, hS⟩
theorem c_manifest_Two_1 (x0 : Sg) (w0 : World) {r : Bool} (H : m_manifest_Two_1 x0 = some r) : Calls Tryd.prog 72 #[.agg #[.int .i64 x0.seq, .int .i64 x0.fmt, .int .i64 x0.first, .int .i64 x0.count]] w0 fun e w' => e = .returned (.bool r) ∧ St0 All w0 w' [] := by
  unfold m_manifest_Two_1 at H
  refine gw_enter1 Tryd.func72 rfl Tryd.ntmps72 rfl ?_
  have hS := St0.start All w0
  refine wpC_seq_k (fun K hK1 => ?_)
  refine wpC_region ?_
  refine wpS_box rfl rfl rfl CellsOf.agg hS (fun b2 w hS hB => ?_)
  refine wpS_quick 1 rfl ?_
  refine wpS_nil ?_
  refine QH_seq_k hK1 ?_
  refine wpC_seq_k (fun K hK4 => ?_)
  refine wpC_region ?_
  refine wpS_put rfl rfl rfl (yv_fieldAddr fo_66_1 rfl) ?_
  refine wpS_put rfl rfl rfl (yv_load_box sc_3 rfl (RW.here _) hS hs0 trivial sg1_1) ?_
  refine wpS_put rfl rfl rfl (yv_eql rfl rfl) ?_
  refine wpS_quick 1 rfl ?_
  refine wpS_nil ?_
  refine QH_seq_k hK4 ?_
  refine wpC_ret ?_
  refine QH_ret rfl (RV.tmp rfl RV.nil) rfl ?_
  obtain rfl := Option.some.inj H
  replace hS := hS.cut 0
  exact ⟨rfl, hS⟩
theorem c_manifest_Two (x0 : Mf) (A0_ : Option Addr) (c0_ : Nat) (w0 : World) (s0_ : SlI w0 enSg A0_ c0_ x0.segs) {r : Bool} (H : m_manifest_Two x0 = some r) : Calls Tryd.prog 39 #[.agg #[.int .i64 x0.next, .int .i64 x0.term, .int .i64 x0.vote, .int .i64 x0.snap.seq, .int .i64 x0.snap.fmt, .slice A0_ x0.segs.length c0_]] w0 fun e w' => e = .returned (.bool r) ∧ St0 All w0 w' [] := by
  unfold m_manifest_Two at H
  refine gw_enter1 Tryd.func39 rfl Tryd.ntmps39 rfl ?_
  have hS := St0.start All w0
  refine wpC_seq_k (fun K hK1 => ?_)
  refine wpC_region ?_
  refine wpS_box rfl rfl rfl CellsOf.agg hS (fun b2 w hS hB => ?_)
  refine wpS_quick 1 rfl ?_
  refine wpS_nil ?_
  refine QH_seq_k hK1 ?_
  refine wpC_seq_k (fun K hK4 => ?_)
  refine wpC_region ?_
  refine wpS_put rfl rfl rfl (yv_fieldAddr fo_50_3 rfl) ?_
  refine wpS_put rfl rfl rfl (yv_fieldAddr fo_47_1 rfl) ?_
  refine wpS_put rfl rfl rfl (yv_load_box sc_3 rfl (RW.here _) hS hs0 trivial sg4_1) ?_
  refine wpS_put rfl rfl rfl (yv_eql rfl rfl) ?_
  refine wpS_quick 1 rfl ?_
  refine wpS_case 7 rfl (fun hb => ?_) (fun hb => ?_)
  · replace H := cond_t H hb
    refine wpS_quick 5 rfl ?_
    refine wpS_nil ?_
    refine QH_seq_k hK4 ?_
    refine wpC_ret ?_
    refine QH_ret rfl (RV.tmp rfl RV.nil) rfl ?_
    obtain rfl := Option.some.inj H
    replace hS := hS.cut 0
    exact ⟨rfl, hS⟩
  replace H := cond_f H hb
  refine wpS_put rfl rfl rfl (yv_fieldAddr fo_50_4 rfl) ?_
  refine wpS_put rfl rfl rfl (yv_load_box sc_48 rfl (RW.here _) hS hs0 trivial sg5_1) ?_
  refine wpS_in rfl rfl rfl rfl (by kernel_rfl) rfl ?_
  show Calls _ _ #[_, _] _ _
  refine gw_enter2 Tryd.func71 rfl Tryd.ntmps71 rfl ?_
  refine wpC_seq_k (fun K hK7 => ?_)
  refine wpC_region ?_
  refine wpS_quick 1 rfl ?_
  refine wpS_nil ?_
  refine QH_seq_k hK7 ?_
  refine wpC_seq_k (fun K hK8 => ?_)
  refine wpC_region ?_
  refine wpS_quick 2 rfl ?_
  refine wpS_in rfl rfl rfl rfl (by kernel_rfl) rfl ?_
  show Calls _ _ #[_, _] _ _
  refine gw_enter2 Tryd.func96 rfl Tryd.ntmps96 rfl ?_
  refine wpC_seq_k (fun K hK9 => ?_)
  refine wpC_region ?_
  refine wpS_quick 1 rfl ?_
  refine wpS_nil ?_
  refine QH_seq_k hK9 ?_
  refine wpC_seq_k (fun K hK10 => ?_)
  refine wpC_seq_k (fun K hK11 => ?_)
  refine wpC_region ?_
  refine wpS_quick 1 rfl ?_
  refine wpS_put rfl rfl rfl (yv_len el_48 rfl) ?_
  refine wpS_quick 1 rfl ?_
  refine wpS_nil ?_
  refine QH_seq_k hK11 ?_
  refine wpC_block ?_
  refine wpC_loop (X := Nat × Int × Int) (fun x => (0, .slice A0_ x0.segs.length c0_) :: (1, .func (.func 72) #[] #[]) :: (4, .int .i64 x.2.1) :: (7, .int .i64 (x0.segs.length : Int)) :: (8, .int .i64 x.2.2) :: []) (fun x w => St0 All w0 w (.box b2 [.int .i64 x0.next, .int .i64 x0.term, .int .i64 x0.vote, .int .i64 x0.snap.seq, .int .i64 x0.snap.fmt, .slice A0_ x0.segs.length c0_] 50 :: []) ∧ m_manifest_Two_l1 x0 x.1 x.2.1 x.2.2 = some r) (fun x => x.1) (fuelN, 0, 0) (by repeat (first | exact Sub.nil | refine Sub.cons rfl ?_)) ⟨hS, H⟩ ?_
  rintro ⟨n, v12, v13⟩ w ⟨hS, H⟩
  dsimp only at hS H ⊢
  obtain _ | n := n
  · have H0 : none = some r := H
    cases H0
  rw [m_manifest_Two_l1] at H
  refine wpC_seq_k (fun K hK14 => ?_)
  refine wpC_region ?_
  refine wpS_put rfl rfl rfl (yv_lss rfl rfl) ?_
  refine wpS_nil ?_
  refine QH_seq_k hK14 ?_
  refine wpC_seq_k (fun K hK15 => ?_)
  refine wpC_cond rfl (fun hb => ?_) (fun hb => ?_)
  rotate_left
  · replace H := cond_f H hb
    refine wpC_exit ?_
    refine QH_then_exit ?_
    refine QH_then_exit ?_
    refine QH_block_hit ?_
    refine QH_seq_k hK10 ?_
    refine wpC_seq_k (fun K hK29 => ?_)
    refine wpC_region ?_
    refine wpS_quick 1 rfl ?_
    refine wpS_nil ?_
    refine QH_seq_k hK29 ?_
    refine wpC_ret ?_
    refine QH_ret rfl (RV.tmp rfl RV.nil) rfl ?_
    refine ⟨_, rfl, ?_⟩
    refine wpS_put rfl rfl rfl (yv_geq rfl rfl) ?_
    refine wpS_quick 1 rfl ?_
    refine wpS_nil ?_
    refine QH_seq_k hK8 ?_
    refine wpC_ret ?_
    refine QH_ret rfl (RV.tmp rfl RV.nil) rfl ?_
    refine ⟨_, rfl, ?_⟩
    refine wpS_quick 2 rfl ?_
    refine wpS_nil ?_
    refine QH_seq_k hK4 ?_
    refine wpC_ret ?_
    refine QH_ret rfl (RV.tmp rfl RV.nil) rfl ?_
    obtain rfl := Option.some.inj H
    replace hS := hS.cut 0
    exact ⟨rfl, hS⟩
  replace H := cond_t H hb
  refine wpC_skip ?_
  refine QH_seq_k hK15 ?_
  refine wpC_seq_k (fun K hK17 => ?_)
  refine wpC_block ?_
  refine wpC_seq_k (fun K hK18 => ?_)
  refine wpC_region ?_
  refine wpS_quick 2 rfl ?_
  refine wpS_nil ?_
  refine QH_seq_k hK18 ?_
  refine wpC_seq_k (fun K hK19 => ?_)
  refine wpC_region ?_
  refine wpS_quick 3 rfl ?_
  obtain ⟨e20, hi22, H⟩ := bind_some H
  obtain ⟨j21, hi22a, hi22b, hi22c⟩ := idx_some hi22
  refine wpS_put rfl rfl rfl (yx_idx el_48 rfl rfl hi22a hi22c (Rd.el (hS.rd0 s0_.rd) he_enSg hi22b)) ?_
  refine wpS_put rfl rfl rfl (yx_ldA0 ag_66 rfl (RW.here _) (Rd.el (hS.rd0 s0_.rd) he_enSg hi22b) sg0_4) ?_
  obtain ⟨r23, hm24, H⟩ := bind_some H
  refine wpS_call rfl rfl rfl rfl (by kernel_rfl) rfl (c_manifest_Two_1 e20 _ hm24) ?_
  rintro e w ⟨rfl, hN⟩; refine ⟨_, rfl, ?_⟩; have hB := hN.pure; have hS := hS.join hN; clear hN
  refine wpS_nil ?_
  refine QH_seq_k hK19 ?_
  refine wpC_cond rfl (fun hb => ?_) (fun hb => ?_)
  rotate_left
  · replace H := cond_f H hb
    refine wpC_skip ?_
    refine QH_block_normal ?_
    refine QH_seq_k hK17 ?_
    refine wpC_region ?_
    refine wpS_put rfl rfl rfl (yx_add rfl rfl) ?_
    refine wpS_quick 1 rfl ?_
    refine wpS_nil ?_
    exact QH_again (n, v12, (IntKind.wrap .i64 (v13 + 1))) (by repeat (first | exact Sub.nil | refine Sub.cons rfl ?_)) ⟨hS, H⟩ (Nat.lt_succ_self _)
  replace H := cond_t H hb
  refine wpC_seq_k (fun K hK26 => ?_)
  refine wpC_region ?_
  refine wpS_quick 2 rfl ?_
  refine wpS_nil ?_
  refine QH_seq_k hK26 ?_
  refine wpC_ret ?_
  refine QH_block_ret ?_
  refine QH_then_ret ?_
  refine QH_then_ret ?_
  refine QH_block_ret ?_
  refine QH_then_ret ?_
  refine QH_ret rfl (RV.tmp rfl RV.nil) rfl ?_
  refine ⟨_, rfl, ?_⟩
  refine wpS_put rfl rfl rfl (yv_geq rfl rfl) ?_
  refine wpS_quick 1 rfl ?_
  refine wpS_nil ?_
  refine QH_seq_k hK8 ?_
  refine wpC_ret ?_
  refine QH_ret rfl (RV.tmp rfl RV.nil) rfl ?_
  refine ⟨_, rfl, ?_⟩
  refine wpS_quick 2 rfl ?_
  refine wpS_nil ?_
  refine QH_seq_k hK4 ?_
  refine wpC_ret ?_
  refine QH_ret rfl (RV.tmp rfl RV.nil) rfl ?_
  obtain rfl := Option.some.inj H
  replace hS := hS.cut 0
  exact ⟨rfl, hS⟩
theorem c_law11_wakes (w0 : World) (hT_ : SlI w0 enU (some ⟨0, 0, none⟩) 16 tabU) {r : Bool} (H : m_law11_wakes = some r) : Calls Tryd.prog 29 #[] w0 fun e w' => e = .returned (.bool r) ∧ St0 All w0 w' [] := by
  unfold m_law11_wakes at H
  refine gw_enter0 Tryd.func29 rfl Tryd.ntmps29 rfl ?_
  have hS := St0.start All w0
  refine wpC_seq_k (fun K hK1 => ?_)
  refine wpC_region ?_
  refine wpS_quick 1 rfl ?_
  refine wpS_nil ?_
  refine QH_seq_k hK1 ?_
  refine wpC_seq_k (fun K hK2 => ?_)
  refine wpC_region ?_
  refine wpS_put rfl rfl rfl (yv_build (cells := [.int .i64 1, .int .i64 0, .int .i64 0, .int .i64 0, .int .i64 0, .slice none 0 0]) rfl (by kernel_rfl)) ?_
  obtain ⟨r3, hm4, H⟩ := bind_some H
  refine wpS_call rfl rfl rfl rfl (by kernel_rfl) rfl (c_manifest_Put (⟨1, 0, 0, (⟨0, 0⟩ : Rf), []⟩ : Mf) none 0 _ (SlI.nil _ _) (SlI.of_rd hT_.k (hS.rd0 hT_.rd) (hS.blk0 hT_.blk)) hm4) ?_
  rintro e w ⟨A5, c6, rfl, k7, hN⟩; refine ⟨_, rfl, ?_⟩; have hB := hN.pure; have hS := hS.join hN; clear hN
  refine wpS_quick 1 rfl ?_
  refine wpS_put rfl rfl rfl (yv_extract rfl rfl) ?_
  refine wpS_put rfl rfl rfl (yv_extract rfl rfl) ?_
  refine wpS_quick 2 rfl ?_
  refine wpS_nil ?_
  refine QH_seq_k hK2 ?_
  refine wpC_seq_k (fun K hK9 => ?_)
  refine wpC_region ?_
  refine wpS_put rfl rfl rfl (yv_build (cells := [.int .i64 2, .int .i64 1]) rfl (by kernel_rfl)) ?_
  refine wpS_put rfl rfl rfl (yv_build (cells := [.int .i64 4, .int .i64 2, .int .i64 5, .int .i64 4]) rfl (by kernel_rfl)) ?_
  refine wpS_put rfl rfl rfl (yv_build (cells := [.int .i64 8, .int .i64 1, .int .i64 9, .int .i64 (-1)]) rfl (by kernel_rfl)) ?_
  refine wpS_sliceM (ps := [(0, .tmp 19), (1, .tmp 20)]) [.int .i64 4, .int .i64 2, .int .i64 5, .int .i64 4, .int .i64 8, .int .i64 1, .int .i64 9, .int .i64 (-1)] el_48 zc_66 rfl rfl rfl rfl rfl (by kernel_rfl) hS (fun b10 w hS hB => ?_)
  refine wpS_put rfl rfl rfl (yv_build (cells := [.int .i64 9, .int .i64 3, .int .i64 1, .int .i64 2, .int .i64 1, .slice (some ⟨b10, 0, none⟩) ([(⟨4, 2, 5, 4⟩ : Sg), (⟨8, 1, 9, (-1)⟩ : Sg)] : List Sg).length 2]) rfl (by kernel_rfl)) ?_
  refine wpS_alloc rfl rfl zc_50 hS (fun b12 w hS hB => ?_)
  refine wpS_store rfl rfl rfl CellsOf.agg hS ps0 st0_6 (by kernel_rfl) rfl (fun w hS hB => ?_)
  refine wpS_nil ?_
  refine QH_seq_k hK9 ?_
  refine wpC_seq_k (fun K hK14 => ?_)
  refine wpC_region ?_
  refine wpS_put rfl rfl rfl (yv_load_boxA ag_50 rfl (RW.here _) hS hs0 trivial sg0_6) ?_
  obtain ⟨r15, hm16, H⟩ := bind_some H
  refine wpS_call rfl rfl rfl rfl (by kernel_rfl) rfl (c_manifest_Put (⟨9, 3, 1, (⟨2, 1⟩ : Rf), ([(⟨4, 2, 5, 4⟩ : Sg), (⟨8, 1, 9, (-1)⟩ : Sg)] : List Sg)⟩ : Mf) (some ⟨b10, 0, none⟩) 2 _ (SlI.of_rd (show 2 ≤ 2 ∧ 2 ≤ maxLen from ⟨Nat.le_refl 2, by decide⟩) (hS.box_rd hs1) (hS.box_blk hs1)) (SlI.of_rd hT_.k (hS.rd0 hT_.rd) (hS.blk0 hT_.blk)) hm16) ?_
  rintro e w ⟨A17, c18, rfl, k19, hN⟩; refine ⟨_, rfl, ?_⟩; have hB := hN.pure; have hS := hS.join hN; clear hN
  refine wpS_quick 1 rfl ?_
  refine wpS_put rfl rfl rfl (yv_extract rfl rfl) ?_
  refine wpS_put rfl rfl rfl (yv_extract rfl rfl) ?_
  refine wpS_quick 2 rfl ?_
  refine wpS_nil ?_
  refine QH_seq_k hK14 ?_
  refine wpC_seq_k (fun K hK21 => ?_)
  refine wpC_region ?_
  refine wpS_quick 1 rfl ?_
  obtain ⟨r22, hm23, H⟩ := bind_some H
  refine wpS_call rfl rfl rfl rfl (by kernel_rfl) rfl (c_manifest_Take r15.1 A17 c18 _ (SlI.of_rd k19 (hS.row_rd hs0) (hS.row_blk hs0)) (SlI.of_rd hT_.k (hS.rd0 hT_.rd) (hS.blk0 hT_.blk)) hm23) ?_
  rintro e w ⟨A24, c25, rfl, k26, hN⟩; refine ⟨_, rfl, ?_⟩; have hB := hN.pure; have hS := hS.join hN; clear hN
  refine wpS_quick 1 rfl ?_
  refine wpS_put rfl rfl rfl (yv_extract rfl rfl) ?_
  refine wpS_put rfl rfl rfl (yv_extract rfl rfl) ?_
  refine wpS_alloc rfl rfl zc_50 hS (fun b28 w hS hB => ?_)
  refine wpS_store rfl rfl rfl CellsOf.agg hS ps0 st0_6 (by kernel_rfl) rfl (fun w hS hB => ?_)
  refine wpS_quick 1 rfl ?_
  refine wpS_nil ?_
  refine QH_seq_k hK21 ?_
  refine wpC_seq_k (fun K hK30 => ?_)
  refine wpC_region ?_
  refine wpS_put rfl rfl rfl (yv_load_boxA ag_50 rfl (RW.here _) hS hs0 trivial sg0_6) ?_
  obtain ⟨r31, hm32, H⟩ := bind_some H
  refine wpS_call rfl rfl rfl rfl (by kernel_rfl) rfl (c_manifest_Open r22.1 A24 c25 _ (SlI.of_rd k26 (hS.row_rd hs1) (hS.row_blk hs1)) hm32) ?_
  rintro e w ⟨rfl, hN⟩; refine ⟨_, rfl, ?_⟩; have hB := hN.pure; have hS := hS.join hN; clear hN
  refine wpS_quick 1 rfl ?_
  refine wpS_put rfl rfl rfl (yv_extract rfl rfl) ?_
  refine wpS_put rfl rfl rfl (yv_extract rfl rfl) ?_
  refine wpS_quick 2 rfl ?_
  refine wpS_nil ?_
  refine QH_seq_k hK30 ?_
  refine wpC_seq_k (fun K hK33 => ?_)
  refine wpC_region ?_
  refine wpS_put rfl rfl rfl (yv_build (cells := [.int .i64 0, .int .i64 0, .int .i64 0, .int .i64 0, .int .i64 0, .slice none 0 0]) rfl (by kernel_rfl)) ?_
  obtain ⟨r34, hm35, H⟩ := bind_some H
  refine wpS_call rfl rfl rfl rfl (by kernel_rfl) rfl (c_manifest_Put (⟨0, 0, 0, (⟨0, 0⟩ : Rf), []⟩ : Mf) none 0 _ (SlI.nil _ _) (SlI.of_rd hT_.k (hS.rd0 hT_.rd) (hS.blk0 hT_.blk)) hm35) ?_
  rintro e w ⟨A36, c37, rfl, k38, hN⟩; refine ⟨_, rfl, ?_⟩; have hB := hN.pure; have hS := hS.join hN; clear hN
  refine wpS_quick 1 rfl ?_
  refine wpS_put rfl rfl rfl (yv_extract rfl rfl) ?_
  refine wpS_put rfl rfl rfl (yv_extract rfl rfl) ?_
  refine wpS_quick 2 rfl ?_
  refine wpS_nil ?_
  refine QH_seq_k hK33 ?_
  refine wpC_seq_k (fun K hK40 => ?_)
  refine wpC_region ?_
  refine wpS_put rfl rfl rfl (yv_load_boxA ag_50 rfl (RW.here _) hS hs4 trivial sg0_6) ?_
  obtain ⟨r41, hm42, H⟩ := bind_some H
  refine wpS_call rfl rfl rfl rfl (by kernel_rfl) rfl (c_manifest_Keep (⟨9, 3, 1, (⟨2, 1⟩ : Rf), ([(⟨4, 2, 5, 4⟩ : Sg), (⟨8, 1, 9, (-1)⟩ : Sg)] : List Sg)⟩ : Mf) (some ⟨b10, 0, none⟩) 2 _ (SlI.of_rd (show 2 ≤ 2 ∧ 2 ≤ maxLen from ⟨Nat.le_refl 2, by decide⟩) (hS.box_rd hs5) (hS.box_blk hs5)) hm42) ?_
  rintro e w ⟨A43, c44, rfl, k45, hN⟩; refine ⟨_, rfl, ?_⟩; have hB := hN.pure; have hS := hS.join hN; clear hN
  refine wpS_quick 1 rfl ?_
  refine wpS_nil ?_
  refine QH_seq_k hK40 ?_
  refine wpC_seq_k (fun K hK47 => ?_)
  refine wpC_region ?_
  refine wpS_quick 1 rfl ?_
  refine wpS_put rfl rfl rfl (yv_eql rfl rfl) ?_
  refine wpS_quick 1 rfl ?_
  refine wpS_case 47 rfl (fun hb => ?_) (fun hb => ?_)
  rotate_left
  · replace H := cond_f H hb
    refine wpS_quick 56 rfl ?_
    refine wpS_nil ?_
    refine QH_seq_k hK47 ?_
    refine wpC_ret ?_
    refine QH_ret rfl (RV.tmp rfl RV.nil) rfl ?_
    obtain rfl := Option.some.inj H
    replace hS := hS.cut 0
    exact ⟨rfl, hS⟩
  replace H := cond_t H hb
  refine wpS_quick 1 rfl ?_
  refine wpS_put rfl rfl rfl (yv_len el_23 rfl) ?_
  refine wpS_put rfl rfl rfl (yv_eql rfl rfl) ?_
  refine wpS_quick 2 rfl ?_
  refine wpS_case 52 rfl (fun hb => ?_) (fun hb => ?_)
  rotate_left
  · replace H := cond_f H hb
    refine wpS_quick 51 rfl ?_
    refine wpS_nil ?_
    refine QH_seq_k hK47 ?_
    refine wpC_ret ?_
    refine QH_ret rfl (RV.tmp rfl RV.nil) rfl ?_
    obtain rfl := Option.some.inj H
    replace hS := hS.cut 0
    exact ⟨rfl, hS⟩
  replace H := cond_t H hb
  refine wpS_quick 1 rfl ?_
  obtain ⟨l50, ht51, H⟩ := bind_some H
  refine wpS_put rfl rfl rfl (yx_slice_h el_23 rfl rfl k7.1 ht51) ?_
  refine wpS_sliceM (ps := [(0, .const (.int .u8 77)), (1, .const (.int .u8 1)), (2, .const (.int .u8 0)), (3, .const (.int .u8 0)), (4, .const (.int .u8 0)), (5, .const (.int .u8 0)), (6, .const (.int .u8 0))]) [.int .u8 77, .int .u8 1, .int .u8 0, .int .u8 0, .int .u8 0, .int .u8 0, .int .u8 0] el_23 zc_5 rfl rfl rfl rfl rfl (by kernel_rfl) hS (fun b52 w hS hB => ?_)
  obtain ⟨r54, hm55, H⟩ := bind_some H
  refine wpS_call rfl rfl rfl rfl (by kernel_rfl) rfl (c_law11_same l50 ([77, 1, 0, 0, 0, 0, 0] : List UInt8) A5 c6 (some ⟨b52, 0, none⟩) 7 _ (SlI.of_rd (k_take k7 ht51) (Rd.takeI he_enY (hS.row_rd hs8) ht51) (hS.row_blk hs8)) (SlI.of_rd (show 7 ≤ 7 ∧ 7 ≤ maxLen from ⟨Nat.le_refl 7, by decide⟩) (hS.box_rd hs0) (hS.box_blk hs0)) hm55) ?_
  rintro e w ⟨rfl, hN⟩; refine ⟨_, rfl, ?_⟩; have hB := hN.pure; have hS := hS.join hN; clear hN
  refine wpS_quick 2 rfl ?_
  refine wpS_case 58 rfl (fun hb => ?_) (fun hb => ?_)
  rotate_left
  · replace H := cond_f H hb
    refine wpS_quick 45 rfl ?_
    refine wpS_nil ?_
    refine QH_seq_k hK47 ?_
    refine wpC_ret ?_
    refine QH_ret rfl (RV.tmp rfl RV.nil) rfl ?_
    obtain rfl := Option.some.inj H
    replace hS := hS.cut 0
    exact ⟨rfl, hS⟩
  replace H := cond_t H hb
  refine wpS_quick 1 rfl ?_
  refine wpS_put rfl rfl rfl (yv_eql rfl rfl) ?_
  refine wpS_quick 2 rfl ?_
  refine wpS_case 62 rfl (fun hb => ?_) (fun hb => ?_)
  rotate_left
  · replace H := cond_f H hb
    refine wpS_quick 41 rfl ?_
    refine wpS_nil ?_
    refine QH_seq_k hK47 ?_
    refine wpC_ret ?_
    refine QH_ret rfl (RV.tmp rfl RV.nil) rfl ?_
    obtain rfl := Option.some.inj H
    replace hS := hS.cut 0
    exact ⟨rfl, hS⟩
  replace H := cond_t H hb
  refine wpS_quick 1 rfl ?_
  refine wpS_put rfl rfl rfl (yv_eql rfl rfl) ?_
  refine wpS_quick 2 rfl ?_
  refine wpS_case 66 rfl (fun hb => ?_) (fun hb => ?_)
  rotate_left
  · replace H := cond_f H hb
    refine wpS_quick 37 rfl ?_
    refine wpS_nil ?_
    refine QH_seq_k hK47 ?_
    refine wpC_ret ?_
    refine QH_ret rfl (RV.tmp rfl RV.nil) rfl ?_
    obtain rfl := Option.some.inj H
    replace hS := hS.cut 0
    exact ⟨rfl, hS⟩
  replace H := cond_t H hb
  refine wpS_put rfl rfl rfl (yv_load_boxA ag_50 rfl (RW.here _) hS hs6 trivial sg0_6) ?_
  refine wpS_put rfl rfl rfl (yv_load_boxA ag_50 rfl (RW.here _) hS hs3 trivial sg0_6) ?_
  obtain ⟨r59, hm60, H⟩ := bind_some H
  refine wpS_call rfl rfl rfl rfl (by kernel_rfl) rfl (c_ref11_Same (⟨9, 3, 1, (⟨2, 1⟩ : Rf), ([(⟨4, 2, 5, 4⟩ : Sg), (⟨8, 1, 9, (-1)⟩ : Sg)] : List Sg)⟩ : Mf) r22.1 (some ⟨b10, 0, none⟩) 2 A24 c25 _ (SlI.of_rd (show 2 ≤ 2 ∧ 2 ≤ maxLen from ⟨Nat.le_refl 2, by decide⟩) (hS.box_rd hs7) (hS.box_blk hs7)) (SlI.of_rd k26 (hS.row_rd hs4) (hS.row_blk hs4)) hm60) ?_
  rintro e w ⟨rfl, hN⟩; refine ⟨_, rfl, ?_⟩; have hB := hN.pure; have hS := hS.join hN; clear hN
  refine wpS_quick 2 rfl ?_
  refine wpS_case 71 rfl (fun hb => ?_) (fun hb => ?_)
  rotate_left
  · replace H := cond_f H hb
    refine wpS_quick 32 rfl ?_
    refine wpS_nil ?_
    refine QH_seq_k hK47 ?_
    refine wpC_ret ?_
    refine QH_ret rfl (RV.tmp rfl RV.nil) rfl ?_
    obtain rfl := Option.some.inj H
    replace hS := hS.cut 0
    exact ⟨rfl, hS⟩
  replace H := cond_t H hb
  refine wpS_quick 1 rfl ?_
  refine wpS_put rfl rfl rfl (yv_eql rfl rfl) ?_
  refine wpS_quick 2 rfl ?_
  refine wpS_case 75 rfl (fun hb => ?_) (fun hb => ?_)
  rotate_left
  · replace H := cond_f H hb
    refine wpS_quick 28 rfl ?_
    refine wpS_nil ?_
    refine QH_seq_k hK47 ?_
    refine wpC_ret ?_
    refine QH_ret rfl (RV.tmp rfl RV.nil) rfl ?_
    obtain rfl := Option.some.inj H
    replace hS := hS.cut 0
    exact ⟨rfl, hS⟩
  replace H := cond_t H hb
  refine wpS_quick 3 rfl ?_
  refine wpS_case 78 rfl (fun hb => ?_) (fun hb => ?_)
  rotate_left
  · replace H := cond_f H hb
    refine wpS_quick 25 rfl ?_
    refine wpS_nil ?_
    refine QH_seq_k hK47 ?_
    refine wpC_ret ?_
    refine QH_ret rfl (RV.tmp rfl RV.nil) rfl ?_
    obtain rfl := Option.some.inj H
    replace hS := hS.cut 0
    exact ⟨rfl, hS⟩
  replace H := cond_t H hb
  refine wpS_quick 1 rfl ?_
  refine wpS_put rfl rfl rfl (yv_eql rfl rfl) ?_
  refine wpS_quick 2 rfl ?_
  refine wpS_case 82 rfl (fun hb => ?_) (fun hb => ?_)
  rotate_left
  · replace H := cond_f H hb
    refine wpS_quick 21 rfl ?_
    refine wpS_nil ?_
    refine QH_seq_k hK47 ?_
    refine wpC_ret ?_
    refine QH_ret rfl (RV.tmp rfl RV.nil) rfl ?_
    obtain rfl := Option.some.inj H
    replace hS := hS.cut 0
    exact ⟨rfl, hS⟩
  replace H := cond_t H hb
  refine wpS_quick 1 rfl ?_
  refine wpS_put rfl rfl rfl (yv_len el_58 rfl) ?_
  refine wpS_put rfl rfl rfl (yv_eql rfl rfl) ?_
  refine wpS_quick 2 rfl ?_
  refine wpS_case 87 rfl (fun hb => ?_) (fun hb => ?_)
  rotate_left
  · replace H := cond_f H hb
    refine wpS_quick 16 rfl ?_
    refine wpS_nil ?_
    refine QH_seq_k hK47 ?_
    refine wpC_ret ?_
    refine QH_ret rfl (RV.tmp rfl RV.nil) rfl ?_
    obtain rfl := Option.some.inj H
    replace hS := hS.cut 0
    exact ⟨rfl, hS⟩
  replace H := cond_t H hb
  refine wpS_quick 1 rfl ?_
  obtain ⟨e66, hi68, H⟩ := bind_some H
  obtain ⟨j67, hi68a, hi68b, hi68c⟩ := idx_some hi68
  refine wpS_put rfl rfl rfl (yx_idx el_58 rfl rfl hi68a hi68c (Rd.el (hS.row_rd hs1) he_enId hi68b)) ?_
  refine wpS_put rfl rfl rfl (yx_ldA0 ag_62 rfl (RW.here _) (Rd.el (hS.row_rd hs1) he_enId hi68b) sg0_3) ?_
  refine wpS_put rfl rfl rfl (yv_build (cells := [.int .u8 4, .int .i64 2, .int .i64 1]) rfl (by kernel_rfl)) ?_
  refine wpS_put rfl rfl rfl (yv_eqlS (by kernel_rfl) rfl rfl (eqT_62 _ _ _ _ _ _)) ?_
  refine wpS_quick 2 rfl ?_
  refine wpS_case 94 rfl (fun hb => ?_) (fun hb => ?_)
  rotate_left
  · replace H := cond_f H hb
    refine wpS_quick 9 rfl ?_
    refine wpS_nil ?_
    refine QH_seq_k hK47 ?_
    refine wpC_ret ?_
    refine QH_ret rfl (RV.tmp rfl RV.nil) rfl ?_
    obtain rfl := Option.some.inj H
    replace hS := hS.cut 0
    exact ⟨rfl, hS⟩
  replace H := cond_t H hb
  refine wpS_put rfl rfl rfl (yv_load_boxA ag_50 rfl (RW.here _) hS hs6 trivial sg0_6) ?_
  obtain ⟨r70, hm71, H⟩ := bind_some H
  refine wpS_call rfl rfl rfl rfl (by kernel_rfl) rfl (c_manifest_Two (⟨9, 3, 1, (⟨2, 1⟩ : Rf), ([(⟨4, 2, 5, 4⟩ : Sg), (⟨8, 1, 9, (-1)⟩ : Sg)] : List Sg)⟩ : Mf) (some ⟨b10, 0, none⟩) 2 _ (SlI.of_rd (show 2 ≤ 2 ∧ 2 ≤ maxLen from ⟨Nat.le_refl 2, by decide⟩) (hS.box_rd hs7) (hS.box_blk hs7)) hm71) ?_
  rintro e w ⟨rfl, hN⟩; refine ⟨_, rfl, ?_⟩; have hB := hN.pure; have hS := hS.join hN; clear hN
  refine wpS_quick 2 rfl ?_
  refine wpS_case 98 rfl (fun hb => ?_) (fun hb => ?_)
  rotate_left
  · replace H := cond_f H hb
    refine wpS_quick 5 rfl ?_
    refine wpS_nil ?_
    refine QH_seq_k hK47 ?_
    refine wpC_ret ?_
    refine QH_ret rfl (RV.tmp rfl RV.nil) rfl ?_
    obtain rfl := Option.some.inj H
    replace hS := hS.cut 0
    exact ⟨rfl, hS⟩
  replace H := cond_t H hb
  refine wpS_put rfl rfl rfl (yv_build (cells := [.int .i64 0, .int .i64 0, .int .i64 0, .int .i64 0, .int .i64 0, .slice none 0 0]) rfl (by kernel_rfl)) ?_
  obtain ⟨r73, hm74, H⟩ := bind_some H
  refine wpS_call rfl rfl rfl rfl (by kernel_rfl) rfl (c_manifest_Two (⟨0, 0, 0, (⟨0, 0⟩ : Rf), []⟩ : Mf) none 0 _ (SlI.nil _ _) hm74) ?_
  rintro e w ⟨rfl, hN⟩; refine ⟨_, rfl, ?_⟩; have hB := hN.pure; have hS := hS.join hN; clear hN
  refine wpS_put rfl rfl rfl (yv_not rfl) ?_
  refine wpS_quick 2 rfl ?_
  refine wpS_nil ?_
  refine QH_seq_k hK47 ?_
  refine wpC_ret ?_
  refine QH_ret rfl (RV.tmp rfl RV.nil) rfl ?_
  obtain rfl := Option.some.inj H
  replace hS := hS.cut 0
  exact ⟨rfl, hS⟩
theorem c_ref11_within (x0 : Int) (x1 : Int) (x2 : Int) (w0 : World) {r : Bool} (H : m_ref11_within x0 x1 x2 = some r) : Calls Tryd.prog 61 #[.int .i64 x0, .int .i64 x1, .int .i64 x2] w0 fun e w' => e = .returned (.bool r) ∧ St0 All w0 w' [] := by
  unfold m_ref11_within at H
  refine gw_enter3 Tryd.func61 rfl Tryd.ntmps61 rfl ?_
  have hS := St0.start All w0
  refine wpC_seq_k (fun K hK1 => ?_)
  refine wpC_region ?_
  refine wpS_quick 1 rfl ?_
  refine wpS_nil ?_
  refine QH_seq_k hK1 ?_
  refine wpC_seq_k (fun K hK2 => ?_)
  refine wpC_region ?_
  refine wpS_quick 2 rfl ?_
  refine wpS_put rfl rfl rfl (yv_geq rfl rfl) ?_
  refine wpS_quick 1 rfl ?_
  refine wpS_case 10 rfl (fun hb => ?_) (fun hb => ?_)
  rotate_left
  · replace H := cond_f H hb
    refine wpS_quick 5 rfl ?_
    refine wpS_nil ?_
    refine QH_seq_k hK2 ?_
    refine wpC_ret ?_
    refine QH_ret rfl (RV.tmp rfl RV.nil) rfl ?_
    obtain rfl := Option.some.inj H
    replace hS := hS.cut 0
    exact ⟨rfl, hS⟩
  replace H := cond_t H hb
  refine wpS_quick 2 rfl ?_
  refine wpS_put rfl rfl rfl (yv_leq rfl rfl) ?_
  refine wpS_quick 2 rfl ?_
  refine wpS_nil ?_
  refine QH_seq_k hK2 ?_
  refine wpC_ret ?_
  refine QH_ret rfl (RV.tmp rfl RV.nil) rfl ?_
  obtain rfl := Option.some.inj H
  replace hS := hS.cut 0
  exact ⟨rfl, hS⟩
theorem c_ref11_file (x0 : Mf) (x1 : Int) (x2 : Int) (A0_ : Option Addr) (c0_ : Nat) (w0 : World) (s0_ : SlI w0 enSg A0_ c0_ x0.segs) {r : Bool} (H : m_ref11_file x0 x1 x2 = some r) : Calls Tryd.prog 62 #[.agg #[.int .i64 x0.next, .int .i64 x0.term, .int .i64 x0.vote, .int .i64 x0.snap.seq, .int .i64 x0.snap.fmt, .slice A0_ x0.segs.length c0_], .int .i64 x1, .int .i64 x2] w0 fun e w' => e = .returned (.bool r) ∧ St0 All w0 w' [] := by
  unfold m_ref11_file at H
  refine gw_enter3 Tryd.func62 rfl Tryd.ntmps62 rfl ?_
  have hS := St0.start All w0
  refine wpC_seq_k (fun K hK1 => ?_)
  refine wpC_region ?_
  refine wpS_box rfl rfl rfl CellsOf.agg hS (fun b2 w hS hB => ?_)
  refine wpS_quick 1 rfl ?_
  refine wpS_nil ?_
  refine QH_seq_k hK1 ?_
  refine wpC_seq_k (fun K hK4 => ?_)
  refine wpC_region ?_
  refine wpS_quick 1 rfl ?_
  refine wpS_put rfl rfl rfl (yv_fieldAddr fo_50_0 rfl) ?_
  refine wpS_put rfl rfl rfl (yv_load_box sc_3 rfl (RW.here _) hS hs0 trivial sg0_1) ?_
  refine wpS_put rfl rfl rfl (yx_sub rfl rfl) ?_
  obtain ⟨r5, hm6, H⟩ := bind_some H
  refine wpS_call rfl rfl rfl rfl (by kernel_rfl) rfl (c_ref11_within x1 1 (IntKind.wrap .i64 (x0.next - 1)) _ hm6) ?_
  rintro e w ⟨rfl, hN⟩; refine ⟨_, rfl, ?_⟩; have hB := hN.pure; have hS := hS.join hN; clear hN
  refine wpS_quick 1 rfl ?_
  refine wpS_case 12 rfl (fun hb => ?_) (fun hb => ?_)
  rotate_left
  · replace H := cond_f H hb
    refine wpS_quick 8 rfl ?_
    refine wpS_nil ?_
    refine QH_seq_k hK4 ?_
    refine wpC_ret ?_
    refine QH_ret rfl (RV.tmp rfl RV.nil) rfl ?_
    obtain rfl := Option.some.inj H
    replace hS := hS.cut 0
    exact ⟨rfl, hS⟩
  replace H := cond_t H hb
  refine wpS_quick 1 rfl ?_
  refine wpS_put rfl rfl rfl (yv_eql rfl rfl) ?_
  refine wpS_quick 1 rfl ?_
  refine wpS_case 15 rfl (fun hb => ?_) (fun hb => ?_)
  · replace H := cond_t H hb
    refine wpS_quick 5 rfl ?_
    refine wpS_nil ?_
    refine QH_seq_k hK4 ?_
    refine wpC_ret ?_
    refine QH_ret rfl (RV.tmp rfl RV.nil) rfl ?_
    obtain rfl := Option.some.inj H
    replace hS := hS.cut 0
    exact ⟨rfl, hS⟩
  replace H := cond_f H hb
  refine wpS_quick 1 rfl ?_
  refine wpS_put rfl rfl rfl (yv_eql rfl rfl) ?_
  refine wpS_quick 3 rfl ?_
  refine wpS_nil ?_
  refine QH_seq_k hK4 ?_
  refine wpC_ret ?_
  refine QH_ret rfl (RV.tmp rfl RV.nil) rfl ?_
  obtain rfl := Option.some.inj H
  replace hS := hS.cut 0
  exact ⟨rfl, hS⟩
theorem c_ref11_seg (x0 : Mf) (x1 : Int) (A0_ : Option Addr) (c0_ : Nat) (w0 : World) (s0_ : SlI w0 enSg A0_ c0_ x0.segs) {r : Bool} (H : m_ref11_seg x0 x1 = some r) : Calls Tryd.prog 63 #[.agg #[.int .i64 x0.next, .int .i64 x0.term, .int .i64 x0.vote, .int .i64 x0.snap.seq, .int .i64 x0.snap.fmt, .slice A0_ x0.segs.length c0_], .int .i64 x1] w0 fun e w' => e = .returned (.bool r) ∧ St0 All w0 w' [] := by
  unfold m_ref11_seg at H
  refine gw_enter2 Tryd.func63 rfl Tryd.ntmps63 rfl ?_
  have hS := St0.start All w0
  refine wpC_seq_k (fun K hK1 => ?_)
  refine wpC_region ?_
  refine wpS_box rfl rfl rfl CellsOf.agg hS (fun b2 w hS hB => ?_)
  refine wpS_quick 1 rfl ?_
  refine wpS_nil ?_
  refine QH_seq_k hK1 ?_
  refine wpC_seq_k (fun K hK4 => ?_)
  refine wpC_region ?_
  refine wpS_put rfl rfl rfl (yv_fieldAddr fo_50_4 rfl) ?_
  refine wpS_put rfl rfl rfl (yv_load_box sc_48 rfl (RW.here _) hS hs0 trivial sg5_1) ?_
  refine wpS_quick 1 rfl ?_
  obtain ⟨e5, hi7, H⟩ := bind_some H
  obtain ⟨j6, hi7a, hi7b, hi7c⟩ := idx_some hi7
  refine wpS_put rfl rfl rfl (yx_idx el_48 rfl rfl hi7a hi7c (Rd.el (hS.rd0 s0_.rd) he_enSg hi7b)) ?_
  refine wpS_put rfl rfl rfl (yx_ldA0 ag_66 rfl (RW.here _) (Rd.el (hS.rd0 s0_.rd) he_enSg hi7b) sg0_4) ?_
  refine wpS_alloc rfl rfl zc_66 hS (fun b8 w hS hB => ?_)
  refine wpS_store rfl rfl rfl CellsOf.agg hS ps0 st0_4 (by kernel_rfl) rfl (fun w hS hB => ?_)
  refine wpS_nil ?_
  refine QH_seq_k hK4 ?_
  refine wpC_seq_k (fun K hK10 => ?_)
  refine wpC_seq_k (fun K hK11 => ?_)
  refine wpC_region ?_
  refine wpS_put rfl rfl rfl (yv_load_boxA ag_50 rfl (RW.here _) hS hs1 trivial sg0_6) ?_
  refine wpS_put rfl rfl rfl (yv_fieldAddr fo_66_0 rfl) ?_
  refine wpS_put rfl rfl rfl (yv_load_box sc_3 rfl (RW.here _) hS hs0 trivial sg0_1) ?_
  refine wpS_put rfl rfl rfl (yv_fieldAddr fo_66_1 rfl) ?_
  refine wpS_put rfl rfl rfl (yv_load_box sc_3 rfl (RW.here _) hS hs0 trivial sg1_1) ?_
  obtain ⟨r12, hm13, H⟩ := bind_some H
  refine wpS_call rfl rfl rfl rfl (by kernel_rfl) rfl (c_ref11_file x0 e5.seq e5.fmt A0_ c0_ _ (SlI.of_rd s0_.k (hS.rd0 s0_.rd) (hS.blk0 s0_.blk)) hm13) ?_
  rintro e w ⟨rfl, hN⟩; refine ⟨_, rfl, ?_⟩; have hB := hN.pure; have hS := hS.join hN; clear hN
  refine wpS_put rfl rfl rfl (yv_not rfl) ?_
  refine wpS_quick 1 rfl ?_
  refine wpS_case 19 rfl (fun hb => ?_) (fun hb => ?_)
  · replace H := cond_t H hb
    refine wpS_quick 13 rfl ?_
    refine wpS_nil ?_
    refine QH_seq_k hK11 ?_
    refine wpC_cond_t rfl rfl ?_
    refine wpC_seq_k (fun K hK15 => ?_)
    refine wpC_region ?_
    refine wpS_quick 1 rfl ?_
    refine wpS_nil ?_
    refine QH_seq_k hK15 ?_
    refine wpC_ret ?_
    refine QH_then_ret ?_
    refine QH_ret rfl (RV.tmp rfl RV.nil) rfl ?_
    obtain rfl := Option.some.inj H
    replace hS := hS.cut 0
    exact ⟨rfl, hS⟩
  replace H := cond_f H hb
  refine wpS_put rfl rfl rfl (yv_fieldAddr fo_66_0 rfl) ?_
  refine wpS_put rfl rfl rfl (yv_load_box sc_3 rfl (RW.here _) hS hs0 trivial sg0_1) ?_
  refine wpS_put rfl rfl rfl (yv_fieldAddr fo_50_3 rfl) ?_
  refine wpS_put rfl rfl rfl (yv_fieldAddr fo_47_0 rfl) ?_
  refine wpS_put rfl rfl rfl (yv_load_box sc_3 rfl (RW.here _) hS hs1 trivial sg3_1) ?_
  refine wpS_put rfl rfl rfl (yv_eql rfl rfl) ?_
  refine wpS_quick 2 rfl ?_
  refine wpS_case 27 rfl (fun hb => ?_) (fun hb => ?_)
  · replace H := cond_t H hb
    refine wpS_quick 5 rfl ?_
    refine wpS_nil ?_
    refine QH_seq_k hK11 ?_
    refine wpC_cond_t rfl rfl ?_
    refine wpC_seq_k (fun K hK18 => ?_)
    refine wpC_region ?_
    refine wpS_quick 1 rfl ?_
    refine wpS_nil ?_
    refine QH_seq_k hK18 ?_
    refine wpC_ret ?_
    refine QH_then_ret ?_
    refine QH_ret rfl (RV.tmp rfl RV.nil) rfl ?_
    obtain rfl := Option.some.inj H
    replace hS := hS.cut 0
    exact ⟨rfl, hS⟩
  replace H := cond_f H hb
  refine wpS_put rfl rfl rfl (yv_fieldAddr fo_66_2 rfl) ?_
  refine wpS_put rfl rfl rfl (yv_load_box sc_3 rfl (RW.here _) hS hs0 trivial sg2_1) ?_
  obtain ⟨r20, hm21, H⟩ := bind_some H
  refine wpS_call rfl rfl rfl rfl (by kernel_rfl) rfl (c_ref11_within e5.first 1 1073741820 _ hm21) ?_
  rintro e w ⟨rfl, hN⟩; refine ⟨_, rfl, ?_⟩; have hB := hN.pure; have hS := hS.join hN; clear hN
  refine wpS_put rfl rfl rfl (yv_not rfl) ?_
  refine wpS_quick 1 rfl ?_
  refine wpS_nil ?_
  refine QH_seq_k hK11 ?_
  refine wpC_cond rfl (fun hb => ?_) (fun hb => ?_)
  · replace H := cond_t H hb
    refine wpC_seq_k (fun K hK23 => ?_)
    refine wpC_region ?_
    refine wpS_quick 1 rfl ?_
    refine wpS_nil ?_
    refine QH_seq_k hK23 ?_
    refine wpC_ret ?_
    refine QH_then_ret ?_
    refine QH_ret rfl (RV.tmp rfl RV.nil) rfl ?_
    obtain rfl := Option.some.inj H
    replace hS := hS.cut 0
    exact ⟨rfl, hS⟩
  replace H := cond_f H hb
  refine wpC_skip ?_
  refine QH_seq_k hK10 ?_
  refine wpC_seq_k (fun K hK25 => ?_)
  refine wpC_seq_k (fun K hK26 => ?_)
  refine wpC_region ?_
  refine wpS_quick 1 rfl ?_
  refine wpS_nil ?_
  refine QH_seq_k hK26 ?_
  refine wpC_block ?_
  refine wpC_loop (X := Nat × Bool × Int) (fun x => (1, .int .i64 x1) :: (2, .pointer (some ⟨b2, 0, none⟩)) :: (4, .bool x.2.1) :: (5, .pointer (some ⟨b8, 0, none⟩)) :: (6, .int .i64 x.2.2) :: []) (fun x w => St0 All w0 w (.box b8 [.int .i64 e5.seq, .int .i64 e5.fmt, .int .i64 e5.first, .int .i64 e5.count] 66 :: .box b2 [.int .i64 x0.next, .int .i64 x0.term, .int .i64 x0.vote, .int .i64 x0.snap.seq, .int .i64 x0.snap.fmt, .slice A0_ x0.segs.length c0_] 50 :: []) ∧ m_ref11_seg_l1 x0 x1 e5 x.1 x.2.1 x.2.2 = some r) (fun x => x.1) (fuelN, false, 0) (by repeat (first | exact Sub.nil | refine Sub.cons rfl ?_)) ⟨hS, H⟩ ?_
  rintro ⟨n, v27, v28⟩ w ⟨hS, H⟩
  dsimp only at hS H ⊢
  obtain _ | n := n
  · have H0 : none = some r := H
    cases H0
  rw [m_ref11_seg_l1] at H
  refine wpC_seq_k (fun K hK29 => ?_)
  refine wpC_seq_k (fun K hK30 => ?_)
  refine wpC_region ?_
  refine wpS_quick 2 rfl ?_
  refine wpS_put rfl rfl rfl (yv_lss rfl rfl) ?_
  refine wpS_nil ?_
  refine QH_seq_k hK30 ?_
  refine wpC_cond rfl (fun hb => ?_) (fun hb => ?_)
  · replace H := cond_t H hb
    refine wpC_skip ?_
    refine QH_seq_k hK29 ?_
    refine wpC_seq_k (fun K hK32 => ?_)
    refine wpC_block ?_
    refine wpC_seq_k (fun K hK33 => ?_)
    refine wpC_draw 9 [] (fun _ _ => True) ⟨by kernel_rfl, by kernel_rfl⟩ hS (fun w hS hB => ?_)
    refine wpR_batch [true, true, true, true, true, true, true, true, true] (by decide +kernel) (by repeat (first | exact PF.body | exact PF.round | apply PF.then | apply PF.inBlock | apply PF.jump)) ?_
    refine LtK.put rfl rfl rfl (yv_fieldAddr fo_50_4 rfl) ?_
    refine LtK.put rfl rfl rfl (yv_load_box sc_48 rfl (RW.below _) hS hs1 trivial sg5_1) ?_
    refine LtK.put rfl rfl rfl (yv_move rfl) ?_
    obtain ⟨e34, hi36, H⟩ := bind_some H
    obtain ⟨j35, hi36a, hi36b, hi36c⟩ := idx_some hi36
    refine LtK.put rfl rfl rfl (yx_idx el_48 rfl rfl hi36a hi36c (Rd.el (hS.rd0 s0_.rd) he_enSg hi36b)) ?_
    refine LtK.put rfl rfl rfl (yx_fieldAddr fo_66_0 rfl (Rd.el (hS.rd0 s0_.rd) he_enSg hi36b)) ?_
    refine LtK.put rfl rfl rfl (yx_ld0 sc_3 rfl (RW.below _) (Rd.el (hS.rd0 s0_.rd) he_enSg hi36b) rfl) ?_
    refine LtK.put rfl rfl rfl (yv_fieldAddr fo_66_0 rfl) ?_
    refine LtK.put rfl rfl rfl (yv_load_box sc_3 rfl (RW.below _) hS hs0 trivial sg0_1) ?_
    refine LtK.put rfl rfl rfl (yv_eql rfl rfl) ?_
    refine LtK.nil ?_
    refine wpR_end (by kernel_rfl) ?_
    refine QH_seq_k hK33 ?_
    refine wpC_cond rfl (fun hb => ?_) (fun hb => ?_)
    rotate_left
    · replace H := cond_f H hb
      refine wpC_skip ?_
      refine QH_block_normal ?_
      refine QH_seq_k hK32 ?_
      refine wpC_region ?_
      refine wpS_quick 1 rfl ?_
      refine wpS_put rfl rfl rfl (yx_add rfl rfl) ?_
      refine wpS_quick 1 rfl ?_
      refine wpS_nil ?_
      exact QH_again (n, v27, (IntKind.wrap .i64 (v28 + 1))) (by repeat (first | exact Sub.nil | refine Sub.cons rfl ?_)) ⟨hS, H⟩ (Nat.lt_succ_self _)
    replace H := cond_t H hb
    refine wpC_seq_k (fun K hK38 => ?_)
    refine wpC_region ?_
    refine wpS_quick 1 rfl ?_
    refine wpS_nil ?_
    refine QH_seq_k hK38 ?_
    refine wpC_ret ?_
    refine QH_block_ret ?_
    refine QH_then_ret ?_
    refine QH_then_ret ?_
    refine QH_block_ret ?_
    refine QH_then_ret ?_
    refine QH_ret rfl (RV.tmp rfl RV.nil) rfl ?_
    obtain rfl := Option.some.inj H
    replace hS := hS.cut 0
    exact ⟨rfl, hS⟩
  replace H := cond_f H hb
  refine wpC_exit ?_
  refine QH_then_exit ?_
  refine QH_then_exit ?_
  refine QH_block_hit ?_
  refine QH_seq_k hK25 ?_
  refine wpC_seq_k (fun K hK41 => ?_)
  refine wpC_seq_k (fun K hK42 => ?_)
  refine wpC_draw 22 [] (fun _ _ => True) ⟨by kernel_rfl, by kernel_rfl⟩ hS (fun w hS hB => ?_)
  refine wpR_batch [true, true, true] (by decide +kernel) (by repeat (first | exact PF.body | exact PF.round | apply PF.then | apply PF.inBlock | apply PF.jump)) ?_
  refine LtK.put rfl rfl rfl (yv_move rfl) ?_
  refine LtK.put rfl rfl rfl (yv_gtr rfl rfl) ?_
  refine LtK.put rfl rfl rfl (yv_move rfl) ?_
  refine LtK.nil ?_
  refine wpR_case 49 rfl (fun hb => ?_) (fun hb => ?_)
  rotate_left
  · replace H := cond_f H hb
    refine wpR_batch [false, false, false, true, true, true, true, true, true, true, true, true, true, true, true, true, true, true, true, true, true, true] (by decide +kernel) (by repeat (first | exact PF.body | exact PF.round | apply PF.then | apply PF.inBlock | apply PF.jump)) ?_
    refine LtK.skip rfl rfl rfl ?_
    refine LtK.skip rfl rfl rfl ?_
    refine LtK.skip rfl rfl rfl ?_
    refine LtK.skip rfl rfl rfl ?_
    refine LtK.skip rfl rfl rfl ?_
    refine LtK.skip rfl rfl rfl ?_
    refine LtK.skip rfl rfl rfl ?_
    refine LtK.skip rfl rfl rfl ?_
    refine LtK.skip rfl rfl rfl ?_
    refine LtK.skip rfl rfl rfl ?_
    refine LtK.skip rfl rfl rfl ?_
    refine LtK.skip rfl rfl rfl ?_
    refine LtK.skip rfl rfl rfl ?_
    refine LtK.skip rfl rfl rfl ?_
    refine LtK.skip rfl rfl rfl ?_
    refine LtK.skip rfl rfl rfl ?_
    refine LtK.skip rfl rfl rfl ?_
    refine LtK.skip rfl rfl rfl ?_
    refine LtK.put rfl rfl rfl (yv_pick_f rfl rfl rfl) ?_
    refine LtK.nil ?_
    refine wpR_end (by kernel_rfl) ?_
    refine QH_seq_k hK42 ?_
    refine wpC_cond_f rfl rfl ?_
    refine wpC_skip ?_
    refine QH_seq_k hK41 ?_
    refine wpC_seq_k (fun K hK61 => ?_)
    refine wpC_region ?_
    refine wpS_put rfl rfl rfl (yv_fieldAddr fo_66_3 rfl) ?_
    refine wpS_put rfl rfl rfl (yv_load_box sc_3 rfl (RW.here _) hS hs0 trivial sg3_1) ?_
    obtain ⟨r62, hm63, H⟩ := bind_some H
    refine wpS_call rfl rfl rfl rfl (by kernel_rfl) rfl (c_ref11_within e5.count 1 4 _ hm63) ?_
    rintro e w ⟨rfl, hN⟩; refine ⟨_, rfl, ?_⟩; have hB := hN.pure; have hS := hS.join hN; clear hN
    refine wpS_quick 1 rfl ?_
    refine wpS_case 72 rfl (fun hb => ?_) (fun hb => ?_)
    · replace H := cond_t H hb
      refine wpS_quick 13 rfl ?_
      refine wpS_nil ?_
      refine QH_seq_k hK61 ?_
      refine wpC_ret ?_
      refine QH_ret rfl (RV.tmp rfl RV.nil) rfl ?_
      obtain rfl := Option.some.inj H
      replace hS := hS.cut 0
      exact ⟨rfl, hS⟩
    replace H := cond_f H hb
    refine wpS_put rfl rfl rfl (yv_fieldAddr fo_66_3 rfl) ?_
    refine wpS_put rfl rfl rfl (yv_load_box sc_3 rfl (RW.here _) hS hs0 trivial sg3_1) ?_
    refine wpS_put rfl rfl rfl (yv_eql rfl rfl) ?_
    refine wpS_quick 1 rfl ?_
    refine wpS_case 76 rfl (fun hb => ?_) (fun hb => ?_)
    rotate_left
    · replace H := cond_f H hb
      refine wpS_quick 9 rfl ?_
      refine wpS_nil ?_
      refine QH_seq_k hK61 ?_
      refine wpC_ret ?_
      refine QH_ret rfl (RV.tmp rfl RV.nil) rfl ?_
      obtain rfl := Option.some.inj H
      replace hS := hS.cut 0
      exact ⟨rfl, hS⟩
    replace H := cond_t H hb
    refine wpS_quick 1 rfl ?_
    refine wpS_put rfl rfl rfl (yv_fieldAddr fo_50_4 rfl) ?_
    refine wpS_put rfl rfl rfl (yv_load_box sc_48 rfl (RW.here _) hS hs1 trivial sg5_1) ?_
    refine wpS_put rfl rfl rfl (yv_len el_48 rfl) ?_
    refine wpS_put rfl rfl rfl (yx_sub rfl rfl) ?_
    refine wpS_put rfl rfl rfl (yv_eql rfl rfl) ?_
    refine wpS_quick 3 rfl ?_
    refine wpS_nil ?_
    refine QH_seq_k hK61 ?_
    refine wpC_ret ?_
    refine QH_ret rfl (RV.tmp rfl RV.nil) rfl ?_
    obtain rfl := Option.some.inj H
    replace hS := hS.cut 0
    exact ⟨rfl, hS⟩
  replace H := cond_t H hb
  refine wpR_batch [false, false, false, true, true, true, true, true, true, true, true, true, true, true, true, true, true, true, true, true, true, true] (by decide +kernel) (by repeat (first | exact PF.body | exact PF.round | apply PF.then | apply PF.inBlock | apply PF.jump)) ?_
  refine LtK.put rfl rfl rfl (yv_fieldAddr fo_66_2 rfl) ?_
  refine LtK.put rfl rfl rfl (yv_load_box sc_3 rfl (RW.below _) hS hs0 trivial sg2_1) ?_
  refine LtK.put rfl rfl rfl (yv_fieldAddr fo_50_4 rfl) ?_
  refine LtK.put rfl rfl rfl (yv_load_box sc_48 rfl (RW.below _) hS hs1 trivial sg5_1) ?_
  refine LtK.put rfl rfl rfl (yv_move rfl) ?_
  refine LtK.put rfl rfl rfl (yx_sub rfl rfl) ?_
  obtain ⟨e44, hi46, H⟩ := bind_some H
  obtain ⟨j45, hi46a, hi46b, hi46c⟩ := idx_some hi46
  refine LtK.put rfl rfl rfl (yx_idx el_48 rfl rfl hi46a hi46c (Rd.el (hS.rd0 s0_.rd) he_enSg hi46b)) ?_
  refine LtK.put rfl rfl rfl (yx_fieldAddr fo_66_2 rfl (Rd.el (hS.rd0 s0_.rd) he_enSg hi46b)) ?_
  refine LtK.put rfl rfl rfl (yx_ld sc_3 rfl (RW.below _) (Rd.el (hS.rd0 s0_.rd) he_enSg hi46b) rfl) ?_
  refine LtK.put rfl rfl rfl (yv_fieldAddr fo_50_4 rfl) ?_
  refine LtK.put rfl rfl rfl (yv_load_box sc_48 rfl (RW.below _) hS hs1 trivial sg5_1) ?_
  refine LtK.put rfl rfl rfl (yv_move rfl) ?_
  refine LtK.put rfl rfl rfl (yx_sub rfl rfl) ?_
  obtain ⟨e47, hi49, H⟩ := bind_some H
  obtain ⟨j48, hi49a, hi49b, hi49c⟩ := idx_some hi49
  refine LtK.put rfl rfl rfl (yx_idx el_48 rfl rfl hi49a hi49c (Rd.el (hS.rd0 s0_.rd) he_enSg hi49b)) ?_
  refine LtK.put rfl rfl rfl (yx_fieldAddr fo_66_3 rfl (Rd.el (hS.rd0 s0_.rd) he_enSg hi49b)) ?_
  refine LtK.put rfl rfl rfl (yx_ld sc_3 rfl (RW.below _) (Rd.el (hS.rd0 s0_.rd) he_enSg hi49b) rfl) ?_
  refine LtK.put rfl rfl rfl (yx_add rfl rfl) ?_
  refine LtK.put rfl rfl rfl (yv_neq rfl rfl) ?_
  refine LtK.put rfl rfl rfl (yv_pick_t rfl rfl rfl) ?_
  refine LtK.nil ?_
  refine wpR_end (by kernel_rfl) ?_
  refine QH_seq_k hK42 ?_
  refine wpC_cond rfl (fun hb => ?_) (fun hb => ?_)
  · replace H := cond_t H hb
    refine wpC_seq_k (fun K hK51 => ?_)
    refine wpC_region ?_
    refine wpS_quick 1 rfl ?_
    refine wpS_nil ?_
    refine QH_seq_k hK51 ?_
    refine wpC_ret ?_
    refine QH_then_ret ?_
    refine QH_ret rfl (RV.tmp rfl RV.nil) rfl ?_
    obtain rfl := Option.some.inj H
    replace hS := hS.cut 0
    exact ⟨rfl, hS⟩
  replace H := cond_f H hb
  refine wpC_skip ?_
  refine QH_seq_k hK41 ?_
  refine wpC_seq_k (fun K hK53 => ?_)
  refine wpC_region ?_
  refine wpS_put rfl rfl rfl (yv_fieldAddr fo_66_3 rfl) ?_
  refine wpS_put rfl rfl rfl (yv_load_box sc_3 rfl (RW.here _) hS hs0 trivial sg3_1) ?_
  obtain ⟨r54, hm55, H⟩ := bind_some H
  refine wpS_call rfl rfl rfl rfl (by kernel_rfl) rfl (c_ref11_within e5.count 1 4 _ hm55) ?_
  rintro e w ⟨rfl, hN⟩; refine ⟨_, rfl, ?_⟩; have hB := hN.pure; have hS := hS.join hN; clear hN
  refine wpS_quick 1 rfl ?_
  refine wpS_case 72 rfl (fun hb => ?_) (fun hb => ?_)
  · replace H := cond_t H hb
    refine wpS_quick 13 rfl ?_
    refine wpS_nil ?_
    refine QH_seq_k hK53 ?_
    refine wpC_ret ?_
    refine QH_ret rfl (RV.tmp rfl RV.nil) rfl ?_
    obtain rfl := Option.some.inj H
    replace hS := hS.cut 0
    exact ⟨rfl, hS⟩
  replace H := cond_f H hb
  refine wpS_put rfl rfl rfl (yv_fieldAddr fo_66_3 rfl) ?_
  refine wpS_put rfl rfl rfl (yv_load_box sc_3 rfl (RW.here _) hS hs0 trivial sg3_1) ?_
  refine wpS_put rfl rfl rfl (yv_eql rfl rfl) ?_
  refine wpS_quick 1 rfl ?_
  refine wpS_case 76 rfl (fun hb => ?_) (fun hb => ?_)
  rotate_left
  · replace H := cond_f H hb
    refine wpS_quick 9 rfl ?_
    refine wpS_nil ?_
    refine QH_seq_k hK53 ?_
    refine wpC_ret ?_
    refine QH_ret rfl (RV.tmp rfl RV.nil) rfl ?_
    obtain rfl := Option.some.inj H
    replace hS := hS.cut 0
    exact ⟨rfl, hS⟩
  replace H := cond_t H hb
  refine wpS_quick 1 rfl ?_
  refine wpS_put rfl rfl rfl (yv_fieldAddr fo_50_4 rfl) ?_
  refine wpS_put rfl rfl rfl (yv_load_box sc_48 rfl (RW.here _) hS hs1 trivial sg5_1) ?_
  refine wpS_put rfl rfl rfl (yv_len el_48 rfl) ?_
  refine wpS_put rfl rfl rfl (yx_sub rfl rfl) ?_
  refine wpS_put rfl rfl rfl (yv_eql rfl rfl) ?_
  refine wpS_quick 3 rfl ?_
  refine wpS_nil ?_
  refine QH_seq_k hK53 ?_
  refine wpC_ret ?_
  refine QH_ret rfl (RV.tmp rfl RV.nil) rfl ?_
  obtain rfl := Option.some.inj H
  replace hS := hS.cut 0
  exact ⟨rfl, hS⟩
theorem c_ref11_Check (x0 : Mf) (A0_ : Option Addr) (c0_ : Nat) (w0 : World) (s0_ : SlI w0 enSg A0_ c0_ x0.segs) {r : Int} (H : m_ref11_Check x0 = some r) : Calls Tryd.prog 31 #[.agg #[.int .i64 x0.next, .int .i64 x0.term, .int .i64 x0.vote, .int .i64 x0.snap.seq, .int .i64 x0.snap.fmt, .slice A0_ x0.segs.length c0_]] w0 fun e w' => e = .returned (.int .i64 r) ∧ St0 All w0 w' [] := by
  unfold m_ref11_Check at H
  refine gw_enter1 Tryd.func31 rfl Tryd.ntmps31 rfl ?_
  have hS := St0.start All w0
  refine wpC_seq_k (fun K hK1 => ?_)
  refine wpC_region ?_
  refine wpS_box rfl rfl rfl CellsOf.agg hS (fun b2 w hS hB => ?_)
  refine wpS_quick 1 rfl ?_
  refine wpS_nil ?_
  refine QH_seq_k hK1 ?_
  refine wpC_seq_k (fun K hK4 => ?_)
  refine wpC_seq_k (fun K hK5 => ?_)
  refine wpC_region ?_
  refine wpS_put rfl rfl rfl (yv_fieldAddr fo_50_0 rfl) ?_
  refine wpS_put rfl rfl rfl (yv_load_box sc_3 rfl (RW.here _) hS hs0 trivial sg0_1) ?_
  obtain ⟨r6, hm7, H⟩ := bind_some H
  refine wpS_call rfl rfl rfl rfl (by kernel_rfl) rfl (c_ref11_within x0.next 1 1073741824 _ hm7) ?_
  rintro e w ⟨rfl, hN⟩; refine ⟨_, rfl, ?_⟩; have hB := hN.pure; have hS := hS.join hN; clear hN
  refine wpS_put rfl rfl rfl (yv_not rfl) ?_
  refine wpS_quick 1 rfl ?_
  refine wpS_case 8 rfl (fun hb => ?_) (fun hb => ?_)
  · replace H := cond_t H hb
    refine wpS_quick 17 rfl ?_
    refine wpS_nil ?_
    refine QH_seq_k hK5 ?_
    refine wpC_cond_t rfl rfl ?_
    refine wpC_seq_k (fun K hK9 => ?_)
    refine wpC_region ?_
    refine wpS_quick 1 rfl ?_
    refine wpS_nil ?_
    refine QH_seq_k hK9 ?_
    refine wpC_ret ?_
    refine QH_then_ret ?_
    refine QH_ret rfl (RV.tmp rfl RV.nil) rfl ?_
    obtain rfl := Option.some.inj H
    replace hS := hS.cut 0
    exact ⟨rfl, hS⟩
  replace H := cond_f H hb
  refine wpS_put rfl rfl rfl (yv_fieldAddr fo_50_1 rfl) ?_
  refine wpS_put rfl rfl rfl (yv_load_box sc_3 rfl (RW.here _) hS hs0 trivial sg1_1) ?_
  obtain ⟨r11, hm12, H⟩ := bind_some H
  refine wpS_call rfl rfl rfl rfl (by kernel_rfl) rfl (c_ref11_within x0.term 0 1073741824 _ hm12) ?_
  rintro e w ⟨rfl, hN⟩; refine ⟨_, rfl, ?_⟩; have hB := hN.pure; have hS := hS.join hN; clear hN
  refine wpS_put rfl rfl rfl (yv_not rfl) ?_
  refine wpS_quick 2 rfl ?_
  refine wpS_case 14 rfl (fun hb => ?_) (fun hb => ?_)
  · replace H := cond_t H hb
    refine wpS_quick 11 rfl ?_
    refine wpS_nil ?_
    refine QH_seq_k hK5 ?_
    refine wpC_cond_t rfl rfl ?_
    refine wpC_seq_k (fun K hK14 => ?_)
    refine wpC_region ?_
    refine wpS_quick 1 rfl ?_
    refine wpS_nil ?_
    refine QH_seq_k hK14 ?_
    refine wpC_ret ?_
    refine QH_then_ret ?_
    refine QH_ret rfl (RV.tmp rfl RV.nil) rfl ?_
    obtain rfl := Option.some.inj H
    replace hS := hS.cut 0
    exact ⟨rfl, hS⟩
  replace H := cond_f H hb
  refine wpS_put rfl rfl rfl (yv_fieldAddr fo_50_2 rfl) ?_
  refine wpS_put rfl rfl rfl (yv_load_box sc_3 rfl (RW.here _) hS hs0 trivial sg2_1) ?_
  obtain ⟨r16, hm17, H⟩ := bind_some H
  refine wpS_call rfl rfl rfl rfl (by kernel_rfl) rfl (c_ref11_within x0.vote 0 5 _ hm17) ?_
  rintro e w ⟨rfl, hN⟩; refine ⟨_, rfl, ?_⟩; have hB := hN.pure; have hS := hS.join hN; clear hN
  refine wpS_put rfl rfl rfl (yv_not rfl) ?_
  refine wpS_quick 2 rfl ?_
  refine wpS_case 20 rfl (fun hb => ?_) (fun hb => ?_)
  · replace H := cond_t H hb
    refine wpS_quick 5 rfl ?_
    refine wpS_nil ?_
    refine QH_seq_k hK5 ?_
    refine wpC_cond_t rfl rfl ?_
    refine wpC_seq_k (fun K hK19 => ?_)
    refine wpC_region ?_
    refine wpS_quick 1 rfl ?_
    refine wpS_nil ?_
    refine QH_seq_k hK19 ?_
    refine wpC_ret ?_
    refine QH_then_ret ?_
    refine QH_ret rfl (RV.tmp rfl RV.nil) rfl ?_
    obtain rfl := Option.some.inj H
    replace hS := hS.cut 0
    exact ⟨rfl, hS⟩
  replace H := cond_f H hb
  refine wpS_put rfl rfl rfl (yv_fieldAddr fo_50_4 rfl) ?_
  refine wpS_put rfl rfl rfl (yv_load_box sc_48 rfl (RW.here _) hS hs0 trivial sg5_1) ?_
  refine wpS_put rfl rfl rfl (yv_len el_48 rfl) ?_
  refine wpS_put rfl rfl rfl (yv_gtr rfl rfl) ?_
  refine wpS_quick 1 rfl ?_
  refine wpS_nil ?_
  refine QH_seq_k hK5 ?_
  refine wpC_cond rfl (fun hb => ?_) (fun hb => ?_)
  · replace H := cond_t H hb
    refine wpC_seq_k (fun K hK22 => ?_)
    refine wpC_region ?_
    refine wpS_quick 1 rfl ?_
    refine wpS_nil ?_
    refine QH_seq_k hK22 ?_
    refine wpC_ret ?_
    refine QH_then_ret ?_
    refine QH_ret rfl (RV.tmp rfl RV.nil) rfl ?_
    obtain rfl := Option.some.inj H
    replace hS := hS.cut 0
    exact ⟨rfl, hS⟩
  replace H := cond_f H hb
  refine wpC_skip ?_
  refine QH_seq_k hK4 ?_
  refine wpC_seq_k (fun K hK24 => ?_)
  refine wpC_seq_k (fun K hK25 => ?_)
  refine wpC_region ?_
  refine wpS_put rfl rfl rfl (yv_fieldAddr fo_50_3 rfl) ?_
  refine wpS_put rfl rfl rfl (yv_load_boxA ag_47 rfl (RW.here _) hS hs0 trivial sg3_2) ?_
  refine wpS_put rfl rfl rfl (yv_build (cells := [.int .i64 0, .int .i64 0]) rfl (by kernel_rfl)) ?_
  refine wpS_put rfl rfl rfl (yv_neqS (by kernel_rfl) rfl rfl (eqT_47 _ _ _ _)) ?_
  refine wpS_quick 1 rfl ?_
  refine wpS_case 30 rfl (fun hb => ?_) (fun hb => ?_)
  rotate_left
  · replace H := cond_f H hb
    refine wpS_quick 10 rfl ?_
    refine wpS_nil ?_
    refine QH_seq_k hK25 ?_
    refine wpC_cond_f rfl rfl ?_
    refine wpC_skip ?_
    refine QH_seq_k hK24 ?_
    refine wpC_seq_k (fun K hK49 => ?_)
    refine wpC_seq_k (fun K hK50 => ?_)
    refine wpC_region ?_
    refine wpS_quick 1 rfl ?_
    refine wpS_nil ?_
    refine QH_seq_k hK50 ?_
    refine wpC_block ?_
    refine wpC_loop (X := Nat × Int × Int) (fun x => (1, .pointer (some ⟨b2, 0, none⟩)) :: (2, .int .i64 x.2.1) :: (3, .int .i64 x.2.2) :: []) (fun x w => St0 All w0 w (.box b2 [.int .i64 x0.next, .int .i64 x0.term, .int .i64 x0.vote, .int .i64 x0.snap.seq, .int .i64 x0.snap.fmt, .slice A0_ x0.segs.length c0_] 50 :: []) ∧ m_ref11_Check_l2 x0 x.1 x.2.1 x.2.2 = some r) (fun x => x.1) (fuelN, 0, 0) (by repeat (first | exact Sub.nil | refine Sub.cons rfl ?_)) ⟨hS, H⟩ ?_
    rintro ⟨n, v51, v52⟩ w ⟨hS, H⟩
    dsimp only at hS H ⊢
    obtain _ | n := n
    · have H0 : none = some r := H
      cases H0
    rw [m_ref11_Check_l2] at H
    refine wpC_seq_k (fun K hK53 => ?_)
    refine wpC_seq_k (fun K hK54 => ?_)
    refine wpC_region ?_
    refine wpS_quick 1 rfl ?_
    refine wpS_put rfl rfl rfl (yv_fieldAddr fo_50_4 rfl) ?_
    refine wpS_put rfl rfl rfl (yv_load_box sc_48 rfl (RW.here _) hS hs0 trivial sg5_1) ?_
    refine wpS_put rfl rfl rfl (yv_len el_48 rfl) ?_
    refine wpS_put rfl rfl rfl (yv_lss rfl rfl) ?_
    refine wpS_nil ?_
    refine QH_seq_k hK54 ?_
    refine wpC_cond rfl (fun hb => ?_) (fun hb => ?_)
    rotate_left
    · replace H := cond_f H hb
      refine wpC_exit ?_
      refine QH_then_exit ?_
      refine QH_then_exit ?_
      refine QH_block_hit ?_
      refine QH_seq_k hK49 ?_
      refine wpC_seq_k (fun K hK64 => ?_)
      refine wpC_region ?_
      refine wpS_quick 1 rfl ?_
      refine wpS_nil ?_
      refine QH_seq_k hK64 ?_
      refine wpC_ret ?_
      refine QH_ret rfl (RV.tmp rfl RV.nil) rfl ?_
      obtain rfl := Option.some.inj H
      replace hS := hS.cut 0
      exact ⟨rfl, hS⟩
    replace H := cond_t H hb
    refine wpC_skip ?_
    refine QH_seq_k hK53 ?_
    refine wpC_seq_k (fun K hK56 => ?_)
    refine wpC_block ?_
    refine wpC_seq_k (fun K hK57 => ?_)
    refine wpC_region ?_
    refine wpS_put rfl rfl rfl (yv_load_boxA ag_50 rfl (RW.here _) hS hs0 trivial sg0_6) ?_
    refine wpS_quick 1 rfl ?_
    obtain ⟨r58, hm59, H⟩ := bind_some H
    refine wpS_call rfl rfl rfl rfl (by kernel_rfl) rfl (c_ref11_seg x0 v52 A0_ c0_ _ (SlI.of_rd s0_.k (hS.rd0 s0_.rd) (hS.blk0 s0_.blk)) hm59) ?_
    rintro e w ⟨rfl, hN⟩; refine ⟨_, rfl, ?_⟩; have hB := hN.pure; have hS := hS.join hN; clear hN
    refine wpS_put rfl rfl rfl (yv_not rfl) ?_
    refine wpS_nil ?_
    refine QH_seq_k hK57 ?_
    refine wpC_cond rfl (fun hb => ?_) (fun hb => ?_)
    rotate_left
    · replace H := cond_f H hb
      refine wpC_skip ?_
      refine QH_block_normal ?_
      refine QH_seq_k hK56 ?_
      refine wpC_region ?_
      refine wpS_quick 1 rfl ?_
      refine wpS_put rfl rfl rfl (yx_add rfl rfl) ?_
      refine wpS_quick 1 rfl ?_
      refine wpS_nil ?_
      exact QH_again (n, v51, (IntKind.wrap .i64 (v52 + 1))) (by repeat (first | exact Sub.nil | refine Sub.cons rfl ?_)) ⟨hS, H⟩ (Nat.lt_succ_self _)
    replace H := cond_t H hb
    refine wpC_seq_k (fun K hK61 => ?_)
    refine wpC_region ?_
    refine wpS_quick 1 rfl ?_
    refine wpS_nil ?_
    refine QH_seq_k hK61 ?_
    refine wpC_ret ?_
    refine QH_block_ret ?_
    refine QH_then_ret ?_
    refine QH_then_ret ?_
    refine QH_block_ret ?_
    refine QH_then_ret ?_
    refine QH_ret rfl (RV.tmp rfl RV.nil) rfl ?_
    obtain rfl := Option.some.inj H
    replace hS := hS.cut 0
    exact ⟨rfl, hS⟩
  replace H := cond_t H hb
  refine wpS_put rfl rfl rfl (yv_load_boxA ag_50 rfl (RW.here _) hS hs0 trivial sg0_6) ?_
  refine wpS_put rfl rfl rfl (yv_fieldAddr fo_50_3 rfl) ?_
  refine wpS_put rfl rfl rfl (yv_fieldAddr fo_47_0 rfl) ?_
  refine wpS_put rfl rfl rfl (yv_load_box sc_3 rfl (RW.here _) hS hs0 trivial sg3_1) ?_
  refine wpS_put rfl rfl rfl (yv_fieldAddr fo_50_3 rfl) ?_
  refine wpS_put rfl rfl rfl (yv_fieldAddr fo_47_1 rfl) ?_
  refine wpS_put rfl rfl rfl (yv_load_box sc_3 rfl (RW.here _) hS hs0 trivial sg4_1) ?_
  obtain ⟨r27, hm28, H⟩ := bind_some H
  refine wpS_call rfl rfl rfl rfl (by kernel_rfl) rfl (c_ref11_file x0 x0.snap.seq x0.snap.fmt A0_ c0_ _ (SlI.of_rd s0_.k (hS.rd0 s0_.rd) (hS.blk0 s0_.blk)) hm28) ?_
  rintro e w ⟨rfl, hN⟩; refine ⟨_, rfl, ?_⟩; have hB := hN.pure; have hS := hS.join hN; clear hN
  refine wpS_put rfl rfl rfl (yv_not rfl) ?_
  refine wpS_quick 1 rfl ?_
  refine wpS_nil ?_
  refine QH_seq_k hK25 ?_
  refine wpC_cond rfl (fun hb => ?_) (fun hb => ?_)
  · replace H := cond_t H hb
    refine wpC_seq_k (fun K hK30 => ?_)
    refine wpC_region ?_
    refine wpS_quick 1 rfl ?_
    refine wpS_nil ?_
    refine QH_seq_k hK30 ?_
    refine wpC_ret ?_
    refine QH_then_ret ?_
    refine QH_ret rfl (RV.tmp rfl RV.nil) rfl ?_
    obtain rfl := Option.some.inj H
    replace hS := hS.cut 0
    exact ⟨rfl, hS⟩
  replace H := cond_f H hb
  refine wpC_skip ?_
  refine QH_seq_k hK24 ?_
  refine wpC_seq_k (fun K hK32 => ?_)
  refine wpC_seq_k (fun K hK33 => ?_)
  refine wpC_region ?_
  refine wpS_quick 1 rfl ?_
  refine wpS_nil ?_
  refine QH_seq_k hK33 ?_
  refine wpC_block ?_
  refine wpC_loop (X := Nat × Int × Int) (fun x => (1, .pointer (some ⟨b2, 0, none⟩)) :: (2, .int .i64 x.2.1) :: (3, .int .i64 x.2.2) :: []) (fun x w => St0 All w0 w (.box b2 [.int .i64 x0.next, .int .i64 x0.term, .int .i64 x0.vote, .int .i64 x0.snap.seq, .int .i64 x0.snap.fmt, .slice A0_ x0.segs.length c0_] 50 :: []) ∧ m_ref11_Check_l1 x0 x.1 x.2.1 x.2.2 = some r) (fun x => x.1) (fuelN, 0, 0) (by repeat (first | exact Sub.nil | refine Sub.cons rfl ?_)) ⟨hS, H⟩ ?_
  rintro ⟨n, v34, v35⟩ w ⟨hS, H⟩
  dsimp only at hS H ⊢
  obtain _ | n := n
  · have H0 : none = some r := H
    cases H0
  rw [m_ref11_Check_l1] at H
  refine wpC_seq_k (fun K hK36 => ?_)
  refine wpC_seq_k (fun K hK37 => ?_)
  refine wpC_region ?_
  refine wpS_quick 1 rfl ?_
  refine wpS_put rfl rfl rfl (yv_fieldAddr fo_50_4 rfl) ?_
  refine wpS_put rfl rfl rfl (yv_load_box sc_48 rfl (RW.here _) hS hs0 trivial sg5_1) ?_
  refine wpS_put rfl rfl rfl (yv_len el_48 rfl) ?_
  refine wpS_put rfl rfl rfl (yv_lss rfl rfl) ?_
  refine wpS_nil ?_
  refine QH_seq_k hK37 ?_
  refine wpC_cond rfl (fun hb => ?_) (fun hb => ?_)
  rotate_left
  · replace H := cond_f H hb
    refine wpC_exit ?_
    refine QH_then_exit ?_
    refine QH_then_exit ?_
    refine QH_block_hit ?_
    refine QH_seq_k hK32 ?_
    refine wpC_seq_k (fun K hK47 => ?_)
    refine wpC_region ?_
    refine wpS_quick 1 rfl ?_
    refine wpS_nil ?_
    refine QH_seq_k hK47 ?_
    refine wpC_ret ?_
    refine QH_ret rfl (RV.tmp rfl RV.nil) rfl ?_
    obtain rfl := Option.some.inj H
    replace hS := hS.cut 0
    exact ⟨rfl, hS⟩
  replace H := cond_t H hb
  refine wpC_skip ?_
  refine QH_seq_k hK36 ?_
  refine wpC_seq_k (fun K hK39 => ?_)
  refine wpC_block ?_
  refine wpC_seq_k (fun K hK40 => ?_)
  refine wpC_region ?_
  refine wpS_put rfl rfl rfl (yv_load_boxA ag_50 rfl (RW.here _) hS hs0 trivial sg0_6) ?_
  refine wpS_quick 1 rfl ?_
  obtain ⟨r41, hm42, H⟩ := bind_some H
  refine wpS_call rfl rfl rfl rfl (by kernel_rfl) rfl (c_ref11_seg x0 v35 A0_ c0_ _ (SlI.of_rd s0_.k (hS.rd0 s0_.rd) (hS.blk0 s0_.blk)) hm42) ?_
  rintro e w ⟨rfl, hN⟩; refine ⟨_, rfl, ?_⟩; have hB := hN.pure; have hS := hS.join hN; clear hN
  refine wpS_put rfl rfl rfl (yv_not rfl) ?_
  refine wpS_nil ?_
  refine QH_seq_k hK40 ?_
  refine wpC_cond rfl (fun hb => ?_) (fun hb => ?_)
  rotate_left
  · replace H := cond_f H hb
    refine wpC_skip ?_
    refine QH_block_normal ?_
    refine QH_seq_k hK39 ?_
    refine wpC_region ?_
    refine wpS_quick 1 rfl ?_
    refine wpS_put rfl rfl rfl (yx_add rfl rfl) ?_
    refine wpS_quick 1 rfl ?_
    refine wpS_nil ?_
    exact QH_again (n, v34, (IntKind.wrap .i64 (v35 + 1))) (by repeat (first | exact Sub.nil | refine Sub.cons rfl ?_)) ⟨hS, H⟩ (Nat.lt_succ_self _)
  replace H := cond_t H hb
  refine wpC_seq_k (fun K hK44 => ?_)
  refine wpC_region ?_
  refine wpS_quick 1 rfl ?_
  refine wpS_nil ?_
  refine QH_seq_k hK44 ?_
  refine wpC_ret ?_
  refine QH_block_ret ?_
  refine QH_then_ret ?_
  refine QH_then_ret ?_
  refine QH_block_ret ?_
  refine QH_then_ret ?_
  refine QH_ret rfl (RV.tmp rfl RV.nil) rfl ?_
  obtain rfl := Option.some.inj H
  replace hS := hS.cut 0
  exact ⟨rfl, hS⟩
theorem c_ref05_May (x0 : Id) (w0 : World) {r : Bool} (H : m_ref05_May x0 = some r) : Calls Tryd.prog 70 #[.agg #[.int .u8 x0.kind, .int .i64 x0.seq, .int .i64 x0.fmt]] w0 fun e w' => e = .returned (.bool r) ∧ St0 All w0 w' [] := by
  unfold m_ref05_May at H
  refine gw_enter1 Tryd.func70 rfl Tryd.ntmps70 rfl ?_
  have hS := St0.start All w0
  refine wpC_seq_k (fun K hK1 => ?_)
  refine wpC_region ?_
  refine wpS_box rfl rfl rfl CellsOf.agg hS (fun b2 w hS hB => ?_)
  refine wpS_quick 1 rfl ?_
  refine wpS_nil ?_
  refine QH_seq_k hK1 ?_
  refine wpC_seq_k (fun K hK4 => ?_)
  refine wpC_seq_k (fun K hK5 => ?_)
  refine wpC_region ?_
  refine wpS_put rfl rfl rfl (yv_fieldAddr fo_62_0 rfl) ?_
  refine wpS_put rfl rfl rfl (yv_load_box sc_5 rfl (RW.here _) hS hs0 trivial sg0_1) ?_
  refine wpS_put rfl rfl rfl (yv_eql rfl rfl) ?_
  refine wpS_quick 1 rfl ?_
  refine wpS_case 6 rfl (fun hb => ?_) (fun hb => ?_)
  · replace H := cond_t H hb
    refine wpS_quick 4 rfl ?_
    refine wpS_nil ?_
    refine QH_seq_k hK5 ?_
    refine wpC_cond_t rfl rfl ?_
    refine wpC_seq_k (fun K hK7 => ?_)
    refine wpC_region ?_
    refine wpS_put rfl rfl rfl (yv_fieldAddr fo_62_1 rfl) ?_
    refine wpS_put rfl rfl rfl (yv_load_box sc_3 rfl (RW.here _) hS hs0 trivial sg1_1) ?_
    refine wpS_put rfl rfl rfl (yv_eql rfl rfl) ?_
    refine wpS_quick 1 rfl ?_
    refine wpS_case 14 rfl (fun hb => ?_) (fun hb => ?_)
    rotate_left
    · replace H := cond_f H hb
      refine wpS_quick 5 rfl ?_
      refine wpS_nil ?_
      refine QH_seq_k hK7 ?_
      refine wpC_ret ?_
      refine QH_then_ret ?_
      refine QH_ret rfl (RV.tmp rfl RV.nil) rfl ?_
      obtain rfl := Option.some.inj H
      replace hS := hS.cut 0
      exact ⟨rfl, hS⟩
    replace H := cond_t H hb
    refine wpS_put rfl rfl rfl (yv_fieldAddr fo_62_2 rfl) ?_
    refine wpS_put rfl rfl rfl (yv_load_box sc_3 rfl (RW.here _) hS hs0 trivial sg2_1) ?_
    refine wpS_put rfl rfl rfl (yv_eql rfl rfl) ?_
    refine wpS_quick 2 rfl ?_
    refine wpS_nil ?_
    refine QH_seq_k hK7 ?_
    refine wpC_ret ?_
    refine QH_then_ret ?_
    refine QH_ret rfl (RV.tmp rfl RV.nil) rfl ?_
    obtain rfl := Option.some.inj H
    replace hS := hS.cut 0
    exact ⟨rfl, hS⟩
  replace H := cond_f H hb
  refine wpS_put rfl rfl rfl (yv_fieldAddr fo_62_0 rfl) ?_
  refine wpS_put rfl rfl rfl (yv_load_box sc_5 rfl (RW.here _) hS hs0 trivial sg0_1) ?_
  refine wpS_put rfl rfl rfl (yv_eql rfl rfl) ?_
  refine wpS_quick 1 rfl ?_
  refine wpS_nil ?_
  refine QH_seq_k hK5 ?_
  refine wpC_cond rfl (fun hb => ?_) (fun hb => ?_)
  · replace H := cond_t H hb
    refine wpC_seq_k (fun K hK12 => ?_)
    refine wpC_region ?_
    refine wpS_put rfl rfl rfl (yv_fieldAddr fo_62_1 rfl) ?_
    refine wpS_put rfl rfl rfl (yv_load_box sc_3 rfl (RW.here _) hS hs0 trivial sg1_1) ?_
    refine wpS_put rfl rfl rfl (yv_eql rfl rfl) ?_
    refine wpS_quick 1 rfl ?_
    refine wpS_case 14 rfl (fun hb => ?_) (fun hb => ?_)
    rotate_left
    · replace H := cond_f H hb
      refine wpS_quick 5 rfl ?_
      refine wpS_nil ?_
      refine QH_seq_k hK12 ?_
      refine wpC_ret ?_
      refine QH_then_ret ?_
      refine QH_ret rfl (RV.tmp rfl RV.nil) rfl ?_
      obtain rfl := Option.some.inj H
      replace hS := hS.cut 0
      exact ⟨rfl, hS⟩
    replace H := cond_t H hb
    refine wpS_put rfl rfl rfl (yv_fieldAddr fo_62_2 rfl) ?_
    refine wpS_put rfl rfl rfl (yv_load_box sc_3 rfl (RW.here _) hS hs0 trivial sg2_1) ?_
    refine wpS_put rfl rfl rfl (yv_eql rfl rfl) ?_
    refine wpS_quick 2 rfl ?_
    refine wpS_nil ?_
    refine QH_seq_k hK12 ?_
    refine wpC_ret ?_
    refine QH_then_ret ?_
    refine QH_ret rfl (RV.tmp rfl RV.nil) rfl ?_
    obtain rfl := Option.some.inj H
    replace hS := hS.cut 0
    exact ⟨rfl, hS⟩
  replace H := cond_f H hb
  refine wpC_skip ?_
  refine QH_seq_k hK4 ?_
  refine wpC_seq_k (fun K hK16 => ?_)
  refine wpC_region ?_
  refine wpS_put rfl rfl rfl (yv_fieldAddr fo_62_0 rfl) ?_
  refine wpS_put rfl rfl rfl (yv_load_box sc_5 rfl (RW.here _) hS hs0 trivial sg0_1) ?_
  refine wpS_put rfl rfl rfl (yv_eql rfl rfl) ?_
  refine wpS_quick 1 rfl ?_
  refine wpS_case 22 rfl (fun hb => ?_) (fun hb => ?_)
  · replace H := cond_t H hb
    refine wpS_quick 5 rfl ?_
    refine wpS_put rfl rfl rfl (yv_fieldAddr fo_62_1 rfl) ?_
    refine wpS_put rfl rfl rfl (yv_load_box sc_3 rfl (RW.here _) hS hs0 trivial sg1_1) ?_
    refine wpS_put rfl rfl rfl (yv_geq rfl rfl) ?_
    refine wpS_quick 2 rfl ?_
    refine wpS_case 32 rfl (fun hb => ?_) (fun hb => ?_)
    rotate_left
    · replace H := cond_f H hb
      refine wpS_quick 15 rfl ?_
      refine wpS_nil ?_
      refine QH_seq_k hK16 ?_
      refine wpC_ret ?_
      refine QH_ret rfl (RV.tmp rfl RV.nil) rfl ?_
      obtain rfl := Option.some.inj H
      replace hS := hS.cut 0
      exact ⟨rfl, hS⟩
    replace H := cond_t H hb
    refine wpS_put rfl rfl rfl (yv_fieldAddr fo_62_1 rfl) ?_
    refine wpS_put rfl rfl rfl (yv_load_box sc_3 rfl (RW.here _) hS hs0 trivial sg1_1) ?_
    refine wpS_put rfl rfl rfl (yv_leq rfl rfl) ?_
    refine wpS_quick 2 rfl ?_
    refine wpS_case 37 rfl (fun hb => ?_) (fun hb => ?_)
    rotate_left
    · replace H := cond_f H hb
      refine wpS_quick 10 rfl ?_
      refine wpS_nil ?_
      refine QH_seq_k hK16 ?_
      refine wpC_ret ?_
      refine QH_ret rfl (RV.tmp rfl RV.nil) rfl ?_
      obtain rfl := Option.some.inj H
      replace hS := hS.cut 0
      exact ⟨rfl, hS⟩
    replace H := cond_t H hb
    refine wpS_put rfl rfl rfl (yv_fieldAddr fo_62_2 rfl) ?_
    refine wpS_put rfl rfl rfl (yv_load_box sc_3 rfl (RW.here _) hS hs0 trivial sg2_1) ?_
    refine wpS_put rfl rfl rfl (yv_eql rfl rfl) ?_
    refine wpS_quick 1 rfl ?_
    refine wpS_case 41 rfl (fun hb => ?_) (fun hb => ?_)
    · replace H := cond_t H hb
      refine wpS_quick 6 rfl ?_
      refine wpS_nil ?_
      refine QH_seq_k hK16 ?_
      refine wpC_ret ?_
      refine QH_ret rfl (RV.tmp rfl RV.nil) rfl ?_
      obtain rfl := Option.some.inj H
      replace hS := hS.cut 0
      exact ⟨rfl, hS⟩
    replace H := cond_f H hb
    refine wpS_put rfl rfl rfl (yv_fieldAddr fo_62_2 rfl) ?_
    refine wpS_put rfl rfl rfl (yv_load_box sc_3 rfl (RW.here _) hS hs0 trivial sg2_1) ?_
    refine wpS_put rfl rfl rfl (yv_eql rfl rfl) ?_
    refine wpS_quick 3 rfl ?_
    refine wpS_nil ?_
    refine QH_seq_k hK16 ?_
    refine wpC_ret ?_
    refine QH_ret rfl (RV.tmp rfl RV.nil) rfl ?_
    obtain rfl := Option.some.inj H
    replace hS := hS.cut 0
    exact ⟨rfl, hS⟩
  replace H := cond_f H hb
  refine wpS_put rfl rfl rfl (yv_fieldAddr fo_62_0 rfl) ?_
  refine wpS_put rfl rfl rfl (yv_load_box sc_5 rfl (RW.here _) hS hs0 trivial sg0_1) ?_
  refine wpS_put rfl rfl rfl (yv_eql rfl rfl) ?_
  refine wpS_quick 2 rfl ?_
  refine wpS_case 27 rfl (fun hb => ?_) (fun hb => ?_)
  rotate_left
  · replace H := cond_f H hb
    refine wpS_quick 20 rfl ?_
    refine wpS_nil ?_
    refine QH_seq_k hK16 ?_
    refine wpC_ret ?_
    refine QH_ret rfl (RV.tmp rfl RV.nil) rfl ?_
    obtain rfl := Option.some.inj H
    replace hS := hS.cut 0
    exact ⟨rfl, hS⟩
  replace H := cond_t H hb
  refine wpS_put rfl rfl rfl (yv_fieldAddr fo_62_1 rfl) ?_
  refine wpS_put rfl rfl rfl (yv_load_box sc_3 rfl (RW.here _) hS hs0 trivial sg1_1) ?_
  refine wpS_put rfl rfl rfl (yv_geq rfl rfl) ?_
  refine wpS_quick 2 rfl ?_
  refine wpS_case 32 rfl (fun hb => ?_) (fun hb => ?_)
  rotate_left
  · replace H := cond_f H hb
    refine wpS_quick 15 rfl ?_
    refine wpS_nil ?_
    refine QH_seq_k hK16 ?_
    refine wpC_ret ?_
    refine QH_ret rfl (RV.tmp rfl RV.nil) rfl ?_
    obtain rfl := Option.some.inj H
    replace hS := hS.cut 0
    exact ⟨rfl, hS⟩
  replace H := cond_t H hb
  refine wpS_put rfl rfl rfl (yv_fieldAddr fo_62_1 rfl) ?_
  refine wpS_put rfl rfl rfl (yv_load_box sc_3 rfl (RW.here _) hS hs0 trivial sg1_1) ?_
  refine wpS_put rfl rfl rfl (yv_leq rfl rfl) ?_
  refine wpS_quick 2 rfl ?_
  refine wpS_case 37 rfl (fun hb => ?_) (fun hb => ?_)
  rotate_left
  · replace H := cond_f H hb
    refine wpS_quick 10 rfl ?_
    refine wpS_nil ?_
    refine QH_seq_k hK16 ?_
    refine wpC_ret ?_
    refine QH_ret rfl (RV.tmp rfl RV.nil) rfl ?_
    obtain rfl := Option.some.inj H
    replace hS := hS.cut 0
    exact ⟨rfl, hS⟩
  replace H := cond_t H hb
  refine wpS_put rfl rfl rfl (yv_fieldAddr fo_62_2 rfl) ?_
  refine wpS_put rfl rfl rfl (yv_load_box sc_3 rfl (RW.here _) hS hs0 trivial sg2_1) ?_
  refine wpS_put rfl rfl rfl (yv_eql rfl rfl) ?_
  refine wpS_quick 1 rfl ?_
  refine wpS_case 41 rfl (fun hb => ?_) (fun hb => ?_)
  · replace H := cond_t H hb
    refine wpS_quick 6 rfl ?_
    refine wpS_nil ?_
    refine QH_seq_k hK16 ?_
    refine wpC_ret ?_
    refine QH_ret rfl (RV.tmp rfl RV.nil) rfl ?_
    obtain rfl := Option.some.inj H
    replace hS := hS.cut 0
    exact ⟨rfl, hS⟩
  replace H := cond_f H hb
  refine wpS_put rfl rfl rfl (yv_fieldAddr fo_62_2 rfl) ?_
  refine wpS_put rfl rfl rfl (yv_load_box sc_3 rfl (RW.here _) hS hs0 trivial sg2_1) ?_
  refine wpS_put rfl rfl rfl (yv_eql rfl rfl) ?_
  refine wpS_quick 3 rfl ?_
  refine wpS_nil ?_
  refine QH_seq_k hK16 ?_
  refine wpC_ret ?_
  refine QH_ret rfl (RV.tmp rfl RV.nil) rfl ?_
  obtain rfl := Option.some.inj H
  replace hS := hS.cut 0
  exact ⟨rfl, hS⟩
theorem c_ref11_Names (x0 : List Id) (A0_ : Option Addr) (c0_ : Nat) (w0 : World) (s0_ : SlI w0 enId A0_ c0_ x0) {r : Bool} (H : m_ref11_Names x0 = some r) : Calls Tryd.prog 37 #[.slice A0_ x0.length c0_] w0 fun e w' => e = .returned (.bool r) ∧ St0 All w0 w' [] := by
  unfold m_ref11_Names at H
  refine gw_enter1 Tryd.func37 rfl Tryd.ntmps37 rfl ?_
  have hS := St0.start All w0
  refine wpC_seq_k (fun K hK1 => ?_)
  refine wpC_region ?_
  refine wpS_quick 1 rfl ?_
  refine wpS_nil ?_
  refine QH_seq_k hK1 ?_
  refine wpC_seq_k (fun K hK2 => ?_)
  refine wpC_seq_k (fun K hK3 => ?_)
  refine wpC_region ?_
  refine wpS_quick 1 rfl ?_
  refine wpS_nil ?_
  refine QH_seq_k hK3 ?_
  refine wpC_block ?_
  refine wpC_loop (X := Nat × Bool × Int) (fun x => (0, .slice A0_ x0.length c0_) :: (2, .bool x.2.1) :: (3, .int .i64 x.2.2) :: []) (fun x w => St0 All w0 w ([]) ∧ m_ref11_Names_l1 x0 x.1 x.2.1 x.2.2 = some r) (fun x => x.1) (fuelN, false, 0) (by repeat (first | exact Sub.nil | refine Sub.cons rfl ?_)) ⟨hS, H⟩ ?_
  rintro ⟨n, v4, v5⟩ w ⟨hS, H⟩
  dsimp only at hS H ⊢
  obtain _ | n := n
  · have H0 : none = some r := H
    cases H0
  rw [m_ref11_Names_l1] at H
  refine wpC_seq_k (fun K hK6 => ?_)
  refine wpC_seq_k (fun K hK7 => ?_)
  refine wpC_region ?_
  refine wpS_quick 2 rfl ?_
  refine wpS_put rfl rfl rfl (yv_len el_58 rfl) ?_
  refine wpS_put rfl rfl rfl (yv_lss rfl rfl) ?_
  refine wpS_nil ?_
  refine QH_seq_k hK7 ?_
  refine wpC_cond rfl (fun hb => ?_) (fun hb => ?_)
  rotate_left
  · replace H := cond_f H hb
    refine wpC_exit ?_
    refine QH_then_exit ?_
    refine QH_then_exit ?_
    refine QH_block_hit ?_
    refine QH_seq_k hK2 ?_
    refine wpC_seq_k (fun K hK39 => ?_)
    refine wpC_region ?_
    refine wpS_quick 1 rfl ?_
    refine wpS_nil ?_
    refine QH_seq_k hK39 ?_
    refine wpC_ret ?_
    refine QH_ret rfl (RV.tmp rfl RV.nil) rfl ?_
    obtain rfl := Option.some.inj H
    replace hS := hS.cut 0
    exact ⟨rfl, hS⟩
  replace H := cond_t H hb
  refine wpC_skip ?_
  refine QH_seq_k hK6 ?_
  refine wpC_seq_k (fun K hK9 => ?_)
  refine wpC_block ?_
  refine wpC_seq_k (fun K hK10 => ?_)
  refine wpC_seq_k (fun K hK11 => ?_)
  refine wpC_region ?_
  refine wpS_quick 2 rfl ?_
  obtain ⟨e12, hi14, H⟩ := bind_some H
  obtain ⟨j13, hi14a, hi14b, hi14c⟩ := idx_some hi14
  refine wpS_put rfl rfl rfl (yx_idx el_58 rfl rfl hi14a hi14c (Rd.el (hS.rd0 s0_.rd) he_enId hi14b)) ?_
  refine wpS_put rfl rfl rfl (yx_ldA0 ag_62 rfl (RW.here _) (Rd.el (hS.rd0 s0_.rd) he_enId hi14b) sg0_3) ?_
  obtain ⟨r15, hm16, H⟩ := bind_some H
  refine wpS_call rfl rfl rfl rfl (by kernel_rfl) rfl (c_ref05_May e12 _ hm16) ?_
  rintro e w ⟨rfl, hN⟩; refine ⟨_, rfl, ?_⟩; have hB := hN.pure; have hS := hS.join hN; clear hN
  refine wpS_put rfl rfl rfl (yv_not rfl) ?_
  refine wpS_nil ?_
  refine QH_seq_k hK11 ?_
  refine wpC_cond rfl (fun hb => ?_) (fun hb => ?_)
  · replace H := cond_t H hb
    refine wpC_seq_k (fun K hK18 => ?_)
    refine wpC_region ?_
    refine wpS_quick 1 rfl ?_
    refine wpS_nil ?_
    refine QH_seq_k hK18 ?_
    refine wpC_ret ?_
    refine QH_then_ret ?_
    refine QH_block_ret ?_
    refine QH_then_ret ?_
    refine QH_then_ret ?_
    refine QH_block_ret ?_
    refine QH_then_ret ?_
    refine QH_ret rfl (RV.tmp rfl RV.nil) rfl ?_
    obtain rfl := Option.some.inj H
    replace hS := hS.cut 0
    exact ⟨rfl, hS⟩
  replace H := cond_f H hb
  refine wpC_skip ?_
  refine QH_seq_k hK10 ?_
  refine wpC_seq_k (fun K hK20 => ?_)
  refine wpC_region ?_
  refine wpS_quick 1 rfl ?_
  refine wpS_nil ?_
  refine QH_seq_k hK20 ?_
  refine wpC_block ?_
  refine wpC_loop (X := Nat × Bool × Int) (fun x => (0, .slice A0_ x0.length c0_) :: (2, .bool x.2.1) :: (3, .int .i64 v5) :: (4, .int .i64 x.2.2) :: []) (fun x w => St0 All w0 w ([]) ∧ m_ref11_Names_l2 (m_ref11_Names_l1 x0 n) x0 v5 x.1 x.2.1 x.2.2 = some r) (fun x => x.1) (fuelN, v4, 0) (by repeat (first | exact Sub.nil | refine Sub.cons rfl ?_)) ⟨hS, H⟩ ?_
  rintro ⟨n2, v21, v22⟩ w ⟨hS, H⟩
  dsimp only at hS H ⊢
  obtain _ | n2 := n2
  · have H0 : none = some r := H
    cases H0
  rw [m_ref11_Names_l2] at H
  refine wpC_seq_k (fun K hK23 => ?_)
  refine wpC_seq_k (fun K hK24 => ?_)
  refine wpC_region ?_
  refine wpS_quick 2 rfl ?_
  refine wpS_put rfl rfl rfl (yv_lss rfl rfl) ?_
  refine wpS_nil ?_
  refine QH_seq_k hK24 ?_
  refine wpC_cond rfl (fun hb => ?_) (fun hb => ?_)
  rotate_left
  · replace H := cond_f H hb
    refine wpC_exit ?_
    refine QH_then_exit ?_
    refine QH_then_exit ?_
    refine QH_block_hit ?_
    refine QH_block_normal ?_
    refine QH_seq_k hK9 ?_
    refine wpC_region ?_
    refine wpS_quick 1 rfl ?_
    refine wpS_put rfl rfl rfl (yx_add rfl rfl) ?_
    refine wpS_quick 1 rfl ?_
    refine wpS_nil ?_
    exact QH_again (n, v21, (IntKind.wrap .i64 (v5 + 1))) (by repeat (first | exact Sub.nil | refine Sub.cons rfl ?_)) ⟨hS, H⟩ (Nat.lt_succ_self _)
  replace H := cond_t H hb
  refine wpC_skip ?_
  refine QH_seq_k hK23 ?_
  refine wpC_seq_k (fun K hK26 => ?_)
  refine wpC_block ?_
  refine wpC_seq_k (fun K hK27 => ?_)
  refine wpC_draw 9 [] (fun _ _ => True) ⟨by kernel_rfl, by kernel_rfl⟩ hS (fun w hS hB => ?_)
  refine wpR_batch [true, true, true, true, true, true, true, true, true] (by decide +kernel) (by repeat (first | exact PF.body | exact PF.round | apply PF.then | apply PF.inBlock | apply PF.jump)) ?_
  refine LtK.put rfl rfl rfl (yv_move rfl) ?_
  refine LtK.put rfl rfl rfl (yv_move rfl) ?_
  obtain ⟨e28, hi30, H⟩ := bind_some H
  obtain ⟨j29, hi30a, hi30b, hi30c⟩ := idx_some hi30
  refine LtK.put rfl rfl rfl (yx_idx el_58 rfl rfl hi30a hi30c (Rd.el (hS.rd0 s0_.rd) he_enId hi30b)) ?_
  refine LtK.put rfl rfl rfl (yx_ldA0 ag_62 rfl (RW.below _) (Rd.el (hS.rd0 s0_.rd) he_enId hi30b) sg0_3) ?_
  refine LtK.put rfl rfl rfl (yv_move rfl) ?_
  refine LtK.put rfl rfl rfl (yv_move rfl) ?_
  obtain ⟨e31, hi33, H⟩ := bind_some H
  obtain ⟨j32, hi33a, hi33b, hi33c⟩ := idx_some hi33
  refine LtK.put rfl rfl rfl (yx_idx el_58 rfl rfl hi33a hi33c (Rd.el (hS.rd0 s0_.rd) he_enId hi33b)) ?_
  refine LtK.put rfl rfl rfl (yx_ldA0 ag_62 rfl (RW.below _) (Rd.el (hS.rd0 s0_.rd) he_enId hi33b) sg0_3) ?_
  refine LtK.put rfl rfl rfl (yv_eqlS (by kernel_rfl) rfl rfl (eqT_62 _ _ _ _ _ _)) ?_
  refine LtK.nil ?_
  refine wpR_end (by kernel_rfl) ?_
  refine QH_seq_k hK27 ?_
  refine wpC_cond rfl (fun hb => ?_) (fun hb => ?_)
  rotate_left
  · replace H := cond_f H hb
    refine wpC_skip ?_
    refine QH_block_normal ?_
    refine QH_seq_k hK26 ?_
    refine wpC_region ?_
    refine wpS_quick 1 rfl ?_
    refine wpS_put rfl rfl rfl (yx_add rfl rfl) ?_
    refine wpS_quick 1 rfl ?_
    refine wpS_nil ?_
    exact QH_again (n2, v21, (IntKind.wrap .i64 (v22 + 1))) (by repeat (first | exact Sub.nil | refine Sub.cons rfl ?_)) ⟨hS, H⟩ (Nat.lt_succ_self _)
  replace H := cond_t H hb
  refine wpC_seq_k (fun K hK35 => ?_)
  refine wpC_region ?_
  refine wpS_quick 1 rfl ?_
  refine wpS_nil ?_
  refine QH_seq_k hK35 ?_
  refine wpC_ret ?_
  refine QH_block_ret ?_
  refine QH_then_ret ?_
  refine QH_then_ret ?_
  refine QH_block_ret ?_
  refine QH_block_ret ?_
  refine QH_then_ret ?_
  refine QH_then_ret ?_
  refine QH_block_ret ?_
  refine QH_then_ret ?_
  refine QH_ret rfl (RV.tmp rfl RV.nil) rfl ?_
  obtain rfl := Option.some.inj H
  replace hS := hS.cut 0
  exact ⟨rfl, hS⟩
theorem c_ref11_Own (x0 : Mf) (A0_ : Option Addr) (c0_ : Nat) (w0 : World) (s0_ : SlI w0 enSg A0_ c0_ x0.segs) {r : Mf} (H : m_ref11_Own x0 = some r) : Calls Tryd.prog 40 #[.agg #[.int .i64 x0.next, .int .i64 x0.term, .int .i64 x0.vote, .int .i64 x0.snap.seq, .int .i64 x0.snap.fmt, .slice A0_ x0.segs.length c0_]] w0 fun e w' => ∃ (A0 : Option Addr) (c0 : Nat), e = .returned (.agg #[.int .i64 r.next, .int .i64 r.term, .int .i64 r.vote, .int .i64 r.snap.seq, .int .i64 r.snap.fmt, .slice A0 r.segs.length c0]) ∧ (r.segs.length ≤ c0 ∧ c0 ≤ maxLen) ∧ St0 All w0 w' [.row (.slice A0 r.segs.length c0) 66 4 r.segs.length (encs enSg r.segs)] := by
  unfold m_ref11_Own at H
  refine gw_enter1 Tryd.func40 rfl Tryd.ntmps40 rfl ?_
  have hS := St0.start All w0
  refine wpC_seq_k (fun K hK1 => ?_)
  refine wpC_region ?_
  refine wpS_box rfl rfl rfl CellsOf.agg hS (fun b2 w hS hB => ?_)
  refine wpS_alloc rfl rfl zc_50 hS (fun b4 w hS hB => ?_)
  refine wpS_nil ?_
  refine QH_seq_k hK1 ?_
  refine wpC_seq_k (fun K hK6 => ?_)
  refine wpC_region ?_
  refine wpS_slice0 el_48 rfl rfl hS (fun b7 w hS hB => ?_)
  refine wpS_put rfl rfl rfl (yv_fieldAddr fo_50_4 rfl) ?_
  refine wpS_put rfl rfl rfl (yv_load_box sc_48 rfl (RW.here _) hS hs2 trivial sg5_1) ?_
  obtain ⟨l9, hf10, H⟩ := bind_some H
  refine wpX_append (ys := x0.segs) he_enSg oc_enSg em_48 (by decide) rfl rfl rfl rfl hS (fun _ => ps0) (hS.rd0 s0_.rd) hf10 (fun A11 c12 w k13 hS => ?_)
  refine wpS_put rfl rfl rfl (yv_fieldAddr fo_50_4 rfl) ?_
  refine wpS_store rfl rfl rfl CellsOf.slice hS ps2 st5_1 (by kernel_rfl) rfl (fun w hS hB => ?_)
  refine wpS_nil ?_
  refine QH_seq_k hK6 ?_
  refine wpC_seq_k (fun K hK14 => ?_)
  refine wpC_region ?_
  refine wpS_put rfl rfl rfl (yv_load_boxA ag_50 rfl (RW.here _) hS hs2 trivial sg0_6) ?_
  refine wpS_store rfl rfl rfl CellsOf.agg hS ps1 st0_6 (by kernel_rfl) rfl (fun w hS hB => ?_)
  refine wpS_nil ?_
  refine QH_seq_k hK14 ?_
  refine wpC_ret ?_
  refine QH_ret rfl (RV.cell rfl (load_boxA ag_50 hS hs1 sg0_6) RV.nil) rfl ?_
  obtain rfl := Option.some.inj H
  have hS := hS.front 0 rfl
  replace hS := hS.cut 1
  exact ⟨A11, c12, rfl, k13, hS⟩
end Go.Proofs.YtofheinbbefbcaaDoor
