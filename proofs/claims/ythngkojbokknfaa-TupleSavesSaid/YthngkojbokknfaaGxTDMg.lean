/- What functions compute, in plain terms; printed. -/
import Derived.Test.YthngkojbokknfaaGxEMg
import Derived.Test.YthngkojbokknfaaGxTupMg
namespace Go.Proofs.Ythngkojbokknfaa
open Go Go.RowKit
def m_ref06_number (x0 : Int) : Option (Bool) :=
  cond (decide (0 ≤ x0))
   (
    some (decide (x0 ≤ 1073741824)))
   (
    some false)
def m_ref06_First : Option (St) :=
  some (⟨0, 0, 0, 1, false⟩ : St)
def m_ref06_Fine (x0 : St) : Option (Bool) :=
  (m_ref06_number x0.index).bind fun r6 =>
  cond (!r6)
   (
    some false)
   (
    (m_ref06_number x0.term).bind fun r9 =>
    cond (!r9)
     (
      some false)
     (
      (m_ref06_number x0.sum).bind fun r12 =>
      cond (!r12)
       (
        some false)
       (
        cond (decide ((decide (x0.term = 0)) ≠ (decide (x0.index = 0))))
         (
          some false)
         (
          cond (decide (x0.level ≠ 1))
           (
            cond (decide (x0.level ≠ 2))
             (
              some false)
             (
              cond x0.final
               (
                cond (decide (x0.level ≠ 2))
                 (
                  some false)
                 (
                  cond (decide (0 < x0.index))
                   (
                    some true)
                   (
                    (m_ref06_First).bind fun r19 =>
                    some (decide (x0.index = r19.index) && (decide (x0.term = r19.term) && (decide (x0.sum = r19.sum) && (decide (x0.level = r19.level) && (decide (x0.final = r19.final)))))))))
               (
                cond (decide (0 < x0.index))
                 (
                  some true)
                 (
                  (m_ref06_First).bind fun r22 =>
                  some (decide (x0.index = r22.index) && (decide (x0.term = r22.term) && (decide (x0.sum = r22.sum) && (decide (x0.level = r22.level) && (decide (x0.final = r22.final))))))))))
           (
            cond x0.final
             (
              cond (decide (x0.level ≠ 2))
               (
                some false)
               (
                cond (decide (0 < x0.index))
                 (
                  some true)
                 (
                  (m_ref06_First).bind fun r26 =>
                  some (decide (x0.index = r26.index) && (decide (x0.term = r26.term) && (decide (x0.sum = r26.sum) && (decide (x0.level = r26.level) && (decide (x0.final = r26.final)))))))))
             (
              cond (decide (0 < x0.index))
               (
                some true)
               (
                (m_ref06_First).bind fun r29 =>
                some (decide (x0.index = r29.index) && (decide (x0.term = r29.term) && (decide (x0.sum = r29.sum) && (decide (x0.level = r29.level) && (decide (x0.final = r29.final)))))))))))))
def m_ref06_Right (x0 : En) : Option (Bool) :=
  cond (decide (1 ≤ x0.term))
   (
    (m_ref06_number x0.term).bind fun r5 =>
    cond r5
     (
      cond (decide (0 ≤ x0.kind))
       (
        cond (decide (x0.kind < 5))
         (
          (m_ref06_number x0.value).bind fun r7 =>
          cond r7
           (
            cond (decide (x0.kind = 1))
             (
              some true)
             (
              some (decide (x0.value = 0))))
           (
            some false))
         (
          some false))
       (
        some false))
     (
      some false))
   (
    some false)
def m_ref12_Right_l1 (x0 : Tu) : Nat → Bool → Int → Int → Option (Bool)
  | 0, _, _, _ => none
  | n + 1, v16, v17, v18 =>
      cond (decide (v18 < (x0.log.length : Int)))
       (
        (idx x0.log v18).bind fun e24 =>
        (m_ref06_Right e24).bind fun r27 =>
        cond (!r27)
         (
          some false)
         (
          (idx x0.log v18).bind fun e30 =>
          cond (decide (e30.term < v17))
           (
            some false)
           (
            (idx x0.log v18).bind fun e34 =>
            m_ref12_Right_l1 x0 n v16 e34.term (IntKind.wrap .i64 (v18 + 1)))))
       (
        cond (decide (v17 ≤ x0.term))
         (
          cond (decide (0 ≤ x0.term))
           (
            some (decide (x0.term ≤ 1073741824)))
           (
            some false))
         (
          some false))
def m_ref12_Right (x0 : Tu) : Option (Bool) :=
  (m_ref06_Fine x0.snap).bind fun r6 =>
  cond (!r6)
   (
    some false)
   (
    cond (decide (1073740824 < x0.snap.index))
     (
      some false)
     (
      cond (decide (200 < (x0.log.length : Int)))
       (
        some false)
       (
        cond (decide (x0.vote < 0))
         (
          some false)
         (
          cond (decide (5 < x0.vote))
           (
            some false)
           (
            m_ref12_Right_l1 x0 fuelN false x0.snap.term 0)))))
def m_entry_First : Option (St) :=
  some (⟨0, 0, 0, 1, false⟩ : St)
def m_tuple_First : Option (Tu) :=
  (m_entry_First).bind fun r5 =>
  some (⟨r5, [], 0, 0⟩ : Tu)
def m_slices_Clone___api_Entry_api_Entry_ (x0 : List En) : Option (List En) := fewI x0
def m_tuple_Own (x0 : Tu) : Option (Tu) :=
  (m_slices_Clone___api_Entry_api_Entry_ x0.log).bind fun r7 =>
  some (⟨x0.snap, r7, x0.term, x0.vote⟩ : Tu)
def m_law12_some_l1 (x0 : Int) (x1 : List Int) : Nat → List En → Int → Option (List En)
  | 0, _, _ => none
  | n + 1, v5, v10 =>
      cond (decide (v10 < (x1.length : Int)))
       (
        (idx x1 v10).bind fun e14 =>
        (fewI (v5 ++ ([(⟨x0, 1, e14⟩ : En)] : List En))).bind fun l19 =>
        m_law12_some_l1 x0 x1 n l19 (IntKind.wrap .i64 (v10 + 1)))
       (
        some v5)
def m_law12_some (x0 : Int) (x1 : List Int) : Option (List En) :=
  m_law12_some_l1 x0 x1 fuelN [] 0
def m_tuple_Last (x0 : Tu) : Option (Int) :=
  some (IntKind.wrap .i64 (x0.snap.index + (x0.log.length : Int)))
def m_tuple_At (x0 : Tu) (x1 : Int) : Option (En × Bool) :=
  cond (decide (x1 ≤ x0.snap.index))
   (
    some ((⟨0, 0, 0⟩ : En), false))
   (
    (m_tuple_Last x0).bind fun r9 =>
    cond (decide (r9 < x1))
     (
      some ((⟨0, 0, 0⟩ : En), false))
     (
      (idx x0.log (IntKind.wrap .i64 ((IntKind.wrap .i64 (x1 - x0.snap.index)) - 1))).bind fun e13 =>
      some (e13, true)))
def m_tuple_TermAt (x0 : Tu) (x1 : Int) : Option (Int × Bool) :=
  cond (decide (x1 = x0.snap.index))
   (
    some (x0.snap.term, true))
   (
    (m_tuple_At x0 x1).bind fun r8 =>
    some (r8.1.term, r8.2))
def m_law12_wakes : Option (Bool) :=
  (m_tuple_First).bind fun r3 =>
  (m_tuple_Hard r3 3 2).bind fun r9 =>
  (m_law12_some 2 ([5, 6, 7] : List Int)).bind fun r20 =>
  (m_tuple_Append r9.1 r20).bind fun r26 =>
  (m_tuple_Cut r26.1 3).bind fun r36 =>
  (m_tuple_State r36.1 1).bind fun r45 =>
  (m_tuple_Save r36.1 r45.1).bind fun r50 =>
  (m_tuple_Install r50.1 (⟨9, 3, 0, 2, false⟩ : St)).bind fun r59 =>
  (m_tuple_Hard r9.1 3 1).bind fun r68 =>
  (m_law12_some 4 ([1] : List Int)).bind fun r79 =>
  (m_tuple_Append r9.1 r79).bind fun r85 =>
  (m_tuple_TermAt r50.1 2).bind fun r95 =>
  (m_tuple_First).bind fun r98 =>
  (m_tuple_Last r98).bind fun r104 =>
  cond (decide (r104 = 0))
   (
    cond (decide (r9.2 = 0))
     (
      cond (decide (r26.2 = 0))
       (
        (m_tuple_Last r26.1).bind fun r106 =>
        cond (decide (r106 = 3))
         (
          cond (decide (r36.2 = 0))
           (
            cond (decide ((r36.1.log.length : Int) = 2))
             (
              cond r45.2
               (
                cond (decide (r45.1.sum = 6))
                 (
                  cond (decide (r50.2 = 0))
                   (
                    cond (decide (r50.1.snap.index = r45.1.index) && (decide (r50.1.snap.term = r45.1.term) && (decide (r50.1.snap.sum = r45.1.sum) && (decide (r50.1.snap.level = r45.1.level) && (decide (r50.1.snap.final = r45.1.final))))))
                     (
                      cond (decide ((r50.1.log.length : Int) = 1))
                       (
                        cond (decide (r59.2 = 0))
                         (
                          cond (decide ((r59.1.log.length : Int) = 0))
                           (
                            cond (decide (r59.1.vote = 2))
                             (
                              cond (decide (r68.2 = 2))
                               (
                                cond (decide (r85.2 = 2))
                                 (
                                  cond (decide (r95.1 = 2))
                                   (
                                    cond r95.2
                                     (
                                      (m_tuple_Right r59.1).bind fun r108 =>
                                      cond r108
                                       (
                                        (m_tuple_Right (⟨(⟨0, 0, 0, 0, false⟩ : St), [], 0, 0⟩ : Tu)).bind fun r110 =>
                                        some (!r110))
                                       (
                                        some false))
                                     (
                                      some false))
                                   (
                                    some false))
                                 (
                                  some false))
                               (
                                some false))
                             (
                              some false))
                           (
                            some false))
                         (
                          some false))
                       (
                        some false))
                     (
                      some false))
                   (
                    some false))
                 (
                  some false))
               (
                some false))
             (
              some false))
           (
            some false))
         (
          some false))
       (
        some false))
     (
      some false))
   (
    some false)
def m_ref06_Same_l1 (x0 : List En) (x1 : List En) : Nat → Bool → Int → Option (Bool)
  | 0, _, _ => none
  | n + 1, v7, v8 =>
      cond (decide (v8 < (x0.length : Int)))
       (
        (idx x0 v8).bind fun e13 =>
        (idx x1 v8).bind fun e16 =>
        cond (!(decide (e13.term = e16.term) && (decide (e13.kind = e16.kind) && (decide (e13.value = e16.value)))))
         (
          some false)
         (
          m_ref06_Same_l1 x0 x1 n v7 (IntKind.wrap .i64 (v8 + 1))))
       (
        some true)
def m_ref06_Same (x0 : List En) (x1 : List En) : Option (Bool) :=
  cond (decide ((x0.length : Int) ≠ (x1.length : Int)))
   (
    some false)
   (
    m_ref06_Same_l1 x0 x1 fuelN false 0)
def m_ref12_Same (x0 : Tu) (x1 : Tu) : Option (Bool) :=
  cond (decide (x0.snap.index = x1.snap.index) && (decide (x0.snap.term = x1.snap.term) && (decide (x0.snap.sum = x1.snap.sum) && (decide (x0.snap.level = x1.snap.level) && (decide (x0.snap.final = x1.snap.final))))))
   (
    cond (decide (x0.term = x1.term))
     (
      cond (decide (x0.vote = x1.vote))
       (
        (m_ref06_Same x0.log x1.log).bind fun r7 =>
        some r7)
       (
        some false))
     (
      some false))
   (
    some false)
def m_law12_TupleSaves (x0 : Tu) (x1 : Int) (x2 : Int) : Option (Bool) :=
  (m_ref12_Right x0).bind fun r6 =>
  cond (!r6)
   (
    (m_law12_wakes).bind fun r9 =>
    some r9)
   (
    (remI x1 (IntKind.wrap .i64 ((x0.log.length : Int) + 1))).bind fun q13 =>
    (remI (IntKind.wrap .i64 ((Int.tmod x1 (IntKind.wrap .i64 ((x0.log.length : Int) + 1))) + (IntKind.wrap .i64 ((x0.log.length : Int) + 1)))) (IntKind.wrap .i64 ((x0.log.length : Int) + 1))).bind fun q15 =>
    (remI x2 (IntKind.wrap .i64 ((x0.log.length : Int) + 1))).bind fun q18 =>
    (remI (IntKind.wrap .i64 ((Int.tmod x2 (IntKind.wrap .i64 ((x0.log.length : Int) + 1))) + (IntKind.wrap .i64 ((x0.log.length : Int) + 1)))) (IntKind.wrap .i64 ((x0.log.length : Int) + 1))).bind fun q20 =>
    (m_tuple_State x0 (IntKind.wrap .i64 (x0.snap.index + (Int.tmod (IntKind.wrap .i64 ((Int.tmod x1 (IntKind.wrap .i64 ((x0.log.length : Int) + 1))) + (IntKind.wrap .i64 ((x0.log.length : Int) + 1)))) (IntKind.wrap .i64 ((x0.log.length : Int) + 1)))))).bind fun r23 =>
    (m_tuple_Save x0 r23.1).bind fun r28 =>
    cond (!r23.2)
     (
      some false)
     (
      cond (decide (r23.1.index ≠ (IntKind.wrap .i64 (x0.snap.index + (Int.tmod (IntKind.wrap .i64 ((Int.tmod x1 (IntKind.wrap .i64 ((x0.log.length : Int) + 1))) + (IntKind.wrap .i64 ((x0.log.length : Int) + 1)))) (IntKind.wrap .i64 ((x0.log.length : Int) + 1)))))))
       (
        some false)
       (
        cond (decide (1073740824 < (IntKind.wrap .i64 (x0.snap.index + (Int.tmod (IntKind.wrap .i64 ((Int.tmod x1 (IntKind.wrap .i64 ((x0.log.length : Int) + 1))) + (IntKind.wrap .i64 ((x0.log.length : Int) + 1)))) (IntKind.wrap .i64 ((x0.log.length : Int) + 1)))))))
         (
          cond (decide (r28.2 = 2))
           (
            (m_law12_wakes).bind fun r43 =>
            some r43)
           (
            some false))
         (
          (m_tuple_State x0 (IntKind.wrap .i64 (x0.snap.index + (Int.tmod (IntKind.wrap .i64 ((Int.tmod x2 (IntKind.wrap .i64 ((x0.log.length : Int) + 1))) + (IntKind.wrap .i64 ((x0.log.length : Int) + 1)))) (IntKind.wrap .i64 ((x0.log.length : Int) + 1)))))).bind fun r46 =>
          (m_tuple_State r28.1 (IntKind.wrap .i64 (x0.snap.index + (Int.tmod (IntKind.wrap .i64 ((Int.tmod x2 (IntKind.wrap .i64 ((x0.log.length : Int) + 1))) + (IntKind.wrap .i64 ((x0.log.length : Int) + 1)))) (IntKind.wrap .i64 ((x0.log.length : Int) + 1)))))).bind fun r51 =>
          (m_tuple_TermAt x0 (IntKind.wrap .i64 (x0.snap.index + (Int.tmod (IntKind.wrap .i64 ((Int.tmod x2 (IntKind.wrap .i64 ((x0.log.length : Int) + 1))) + (IntKind.wrap .i64 ((x0.log.length : Int) + 1)))) (IntKind.wrap .i64 ((x0.log.length : Int) + 1)))))).bind fun r56 =>
          (m_tuple_TermAt r28.1 (IntKind.wrap .i64 (x0.snap.index + (Int.tmod (IntKind.wrap .i64 ((Int.tmod x2 (IntKind.wrap .i64 ((x0.log.length : Int) + 1))) + (IntKind.wrap .i64 ((x0.log.length : Int) + 1)))) (IntKind.wrap .i64 ((x0.log.length : Int) + 1)))))).bind fun r59 =>
          cond (decide (r28.2 ≠ 0))
           (
            some false)
           (
            cond (!(decide (r28.1.snap.index = r23.1.index) && (decide (r28.1.snap.term = r23.1.term) && (decide (r28.1.snap.sum = r23.1.sum) && (decide (r28.1.snap.level = r23.1.level) && (decide (r28.1.snap.final = r23.1.final)))))))
             (
              some false)
             (
              (m_tuple_Last r28.1).bind fun r65 =>
              (m_tuple_Last x0).bind fun r67 =>
              cond (decide (r65 ≠ r67))
               (
                some false)
               (
                cond (!r46.2)
                 (
                  some false)
                 (
                  cond (!r56.2)
                   (
                    some false)
                   (
                    cond (decide (r51.2 ≠ (decide ((IntKind.wrap .i64 (x0.snap.index + (Int.tmod (IntKind.wrap .i64 ((Int.tmod x1 (IntKind.wrap .i64 ((x0.log.length : Int) + 1))) + (IntKind.wrap .i64 ((x0.log.length : Int) + 1)))) (IntKind.wrap .i64 ((x0.log.length : Int) + 1))))) ≤ (IntKind.wrap .i64 (x0.snap.index + (Int.tmod (IntKind.wrap .i64 ((Int.tmod x2 (IntKind.wrap .i64 ((x0.log.length : Int) + 1))) + (IntKind.wrap .i64 ((x0.log.length : Int) + 1)))) (IntKind.wrap .i64 ((x0.log.length : Int) + 1)))))))))
                     (
                      some false)
                     (
                      cond (decide (r59.2 ≠ (decide ((IntKind.wrap .i64 (x0.snap.index + (Int.tmod (IntKind.wrap .i64 ((Int.tmod x1 (IntKind.wrap .i64 ((x0.log.length : Int) + 1))) + (IntKind.wrap .i64 ((x0.log.length : Int) + 1)))) (IntKind.wrap .i64 ((x0.log.length : Int) + 1))))) ≤ (IntKind.wrap .i64 (x0.snap.index + (Int.tmod (IntKind.wrap .i64 ((Int.tmod x2 (IntKind.wrap .i64 ((x0.log.length : Int) + 1))) + (IntKind.wrap .i64 ((x0.log.length : Int) + 1)))) (IntKind.wrap .i64 ((x0.log.length : Int) + 1)))))))))
                       (
                        some false)
                       (
                        cond (decide ((IntKind.wrap .i64 (x0.snap.index + (Int.tmod (IntKind.wrap .i64 ((Int.tmod x2 (IntKind.wrap .i64 ((x0.log.length : Int) + 1))) + (IntKind.wrap .i64 ((x0.log.length : Int) + 1)))) (IntKind.wrap .i64 ((x0.log.length : Int) + 1))))) < (IntKind.wrap .i64 (x0.snap.index + (Int.tmod (IntKind.wrap .i64 ((Int.tmod x1 (IntKind.wrap .i64 ((x0.log.length : Int) + 1))) + (IntKind.wrap .i64 ((x0.log.length : Int) + 1)))) (IntKind.wrap .i64 ((x0.log.length : Int) + 1)))))))
                         (
                          cond (decide (r28.1.term = x0.term))
                           (
                            cond (decide (r28.1.vote = x0.vote))
                             (
                              (m_law12_wakes).bind fun r75 =>
                              some r75)
                             (
                              some false))
                           (
                            some false))
                         (
                          cond (decide (r46.1.index = r51.1.index) && (decide (r46.1.term = r51.1.term) && (decide (r46.1.sum = r51.1.sum) && (decide (r46.1.level = r51.1.level) && (decide (r46.1.final = r51.1.final))))))
                           (
                            cond (decide (r56.1 = r59.1))
                             (
                              cond (decide (r28.1.term = x0.term))
                               (
                                cond (decide (r28.1.vote = x0.vote))
                                 (
                                  (m_law12_wakes).bind fun r77 =>
                                  some r77)
                                 (
                                  some false))
                               (
                                some false))
                             (
                              some false))
                           (
                            some false)))))))))))))
def m_law12_TupleCuts (x0 : Tu) (x1 : Int) : Option (Bool) :=
  (m_ref12_Right x0).bind fun r6 =>
  cond (!r6)
   (
    (m_law12_wakes).bind fun r9 =>
    some r9)
   (
    (remI x1 (IntKind.wrap .i64 ((x0.log.length : Int) + 1))).bind fun q13 =>
    (remI (IntKind.wrap .i64 ((Int.tmod x1 (IntKind.wrap .i64 ((x0.log.length : Int) + 1))) + (IntKind.wrap .i64 ((x0.log.length : Int) + 1)))) (IntKind.wrap .i64 ((x0.log.length : Int) + 1))).bind fun q15 =>
    (m_tuple_Cut x0 (IntKind.wrap .i64 ((IntKind.wrap .i64 (x0.snap.index + 1)) + (Int.tmod (IntKind.wrap .i64 ((Int.tmod x1 (IntKind.wrap .i64 ((x0.log.length : Int) + 1))) + (IntKind.wrap .i64 ((x0.log.length : Int) + 1)))) (IntKind.wrap .i64 ((x0.log.length : Int) + 1)))))).bind fun r18 =>
    (dropI x0.log (Int.tmod (IntKind.wrap .i64 ((Int.tmod x1 (IntKind.wrap .i64 ((x0.log.length : Int) + 1))) + (IntKind.wrap .i64 ((x0.log.length : Int) + 1)))) (IntKind.wrap .i64 ((x0.log.length : Int) + 1)))).bind fun l27 =>
    (m_tuple_Append r18.1 l27).bind fun r29 =>
    (m_tuple_Cut x0 x0.snap.index).bind fun r39 =>
    (m_tuple_Last x0).bind fun r48 =>
    (m_tuple_Cut x0 (IntKind.wrap .i64 (r48 + 2))).bind fun r50 =>
    cond (decide (r18.2 = 0))
     (
      cond (decide (r29.2 = 0))
       (
        cond (decide (r39.2 = 2))
         (
          cond (decide (r50.2 = 2))
           (
            (m_ref12_Same r29.1 x0).bind fun r60 =>
            cond r60
             (
              (m_tuple_Last r18.1).bind fun r62 =>
              cond (decide (r62 = (IntKind.wrap .i64 (x0.snap.index + (Int.tmod (IntKind.wrap .i64 ((Int.tmod x1 (IntKind.wrap .i64 ((x0.log.length : Int) + 1))) + (IntKind.wrap .i64 ((x0.log.length : Int) + 1)))) (IntKind.wrap .i64 ((x0.log.length : Int) + 1)))))))
               (
                (takeI x0.log (Int.tmod (IntKind.wrap .i64 ((Int.tmod x1 (IntKind.wrap .i64 ((x0.log.length : Int) + 1))) + (IntKind.wrap .i64 ((x0.log.length : Int) + 1)))) (IntKind.wrap .i64 ((x0.log.length : Int) + 1)))).bind fun l64 =>
                (m_ref06_Same r18.1.log l64).bind fun r66 =>
                cond r66
                 (
                  cond (decide (r18.1.snap.index = x0.snap.index) && (decide (r18.1.snap.term = x0.snap.term) && (decide (r18.1.snap.sum = x0.snap.sum) && (decide (r18.1.snap.level = x0.snap.level) && (decide (r18.1.snap.final = x0.snap.final))))))
                   (
                    (m_law12_wakes).bind fun r68 =>
                    some r68)
                   (
                    some false))
                 (
                  some false))
               (
                some false))
             (
              some false))
           (
            some false))
         (
          some false))
       (
        some false))
     (
      some false))
def m_law12_TupleInstalls (x0 : Tu) (x1 : St) : Option (Bool) :=
  (m_ref12_Right x0).bind fun r8 =>
  cond (!r8)
   (
    (m_law12_wakes).bind fun r11 =>
    some r11)
   (
    (m_ref06_Fine x1).bind fun r13 =>
    cond (!r13)
     (
      (m_law12_wakes).bind fun r16 =>
      some r16)
     (
      (m_tuple_Install x0 x1).bind fun r19 =>
      cond (decide (x1.index ≤ x0.snap.index))
       (
        cond (decide (r19.2 = 2))
         (
          (m_ref12_Same r19.1 x0).bind fun r30 =>
          cond r30
           (
            (m_law12_wakes).bind fun r32 =>
            some r32)
           (
            some false))
         (
          some false))
       (
        cond (decide (1073740824 < x1.index))
         (
          cond (decide (r19.2 = 2))
           (
            (m_ref12_Same r19.1 x0).bind fun r35 =>
            cond r35
             (
              (m_law12_wakes).bind fun r37 =>
              some r37)
             (
              some false))
           (
            some false))
         (
          cond (decide (x0.term < x1.term))
           (
            cond (decide (r19.2 = 2))
             (
              (m_ref12_Same r19.1 x0).bind fun r40 =>
              cond r40
               (
                (m_law12_wakes).bind fun r42 =>
                some r42)
               (
                some false))
             (
              some false))
           (
            cond (decide ((IntKind.wrap .i64 (x1.index - x0.snap.index)) ≤ (x0.log.length : Int)))
             (
              (idx x0.log (IntKind.wrap .i64 ((IntKind.wrap .i64 (x1.index - x0.snap.index)) - 1))).bind fun e47 =>
              cond (decide (e47.term = x1.term))
               (
                cond (decide (r19.2 = 0))
                 (
                  cond (decide (r19.1.snap.index = x1.index) && (decide (r19.1.snap.term = x1.term) && (decide (r19.1.snap.sum = x1.sum) && (decide (r19.1.snap.level = x1.level) && (decide (r19.1.snap.final = x1.final))))))
                   (
                    (dropI x0.log (IntKind.wrap .i64 (x1.index - x0.snap.index))).bind fun l51 =>
                    (m_ref06_Same r19.1.log l51).bind fun r53 =>
                    cond r53
                     (
                      cond (decide (r19.1.term = x0.term))
                       (
                        cond (decide (r19.1.vote = x0.vote))
                         (
                          (m_law12_wakes).bind fun r55 =>
                          some r55)
                         (
                          some false))
                       (
                        some false))
                     (
                      some false))
                   (
                    some false))
                 (
                  some false))
               (
                cond (decide (r19.2 = 0))
                 (
                  cond (decide (r19.1.snap.index = x1.index) && (decide (r19.1.snap.term = x1.term) && (decide (r19.1.snap.sum = x1.sum) && (decide (r19.1.snap.level = x1.level) && (decide (r19.1.snap.final = x1.final))))))
                   (
                    cond (decide ((r19.1.log.length : Int) = 0))
                     (
                      cond (decide (r19.1.term = x0.term))
                       (
                        cond (decide (r19.1.vote = x0.vote))
                         (
                          (m_tuple_Last r19.1).bind fun r58 =>
                          cond (decide (r58 = x1.index))
                           (
                            (m_law12_wakes).bind fun r60 =>
                            some r60)
                           (
                            some false))
                         (
                          some false))
                       (
                        some false))
                     (
                      some false))
                   (
                    some false))
                 (
                  some false)))
             (
              cond (decide (r19.2 = 0))
               (
                cond (decide (r19.1.snap.index = x1.index) && (decide (r19.1.snap.term = x1.term) && (decide (r19.1.snap.sum = x1.sum) && (decide (r19.1.snap.level = x1.level) && (decide (r19.1.snap.final = x1.final))))))
                 (
                  cond (decide ((r19.1.log.length : Int) = 0))
                   (
                    cond (decide (r19.1.term = x0.term))
                     (
                      cond (decide (r19.1.vote = x0.vote))
                       (
                        (m_tuple_Last r19.1).bind fun r63 =>
                        cond (decide (r63 = x1.index))
                         (
                          (m_law12_wakes).bind fun r65 =>
                          some r65)
                         (
                          some false))
                       (
                        some false))
                     (
                      some false))
                   (
                    some false))
                 (
                  some false))
               (
                some false)))))))
def m_ref12_Great (x0 : Tu) : Option (Bool) :=
  some (decide (250 < (x0.log.length : Int)))
def m_ref12_Own (x0 : Tu) : Option (Tu) :=
  (fewI ([] ++ x0.log)).bind fun l9 =>
  some (⟨x0.snap, l9, x0.term, x0.vote⟩ : Tu)
def m_ref12_Append (x0 : Tu) (x1 : List En) : Option (Tu × Int) :=
  (m_ref12_Own x0).bind fun r7 =>
  (fewI (r7.log ++ x1)).bind fun l16 =>
  (m_ref12_Right x0).bind fun r31 =>
  cond (!r31)
   (
    (m_ref12_Own x0).bind fun r34 =>
    some (r34, 2))
   (
    (m_ref12_Right (⟨r7.snap, l16, r7.term, r7.vote⟩ : Tu)).bind fun r40 =>
    cond (!r40)
     (
      (m_ref12_Own x0).bind fun r43 =>
      some (r43, 2))
     (
      some ((⟨r7.snap, l16, r7.term, r7.vote⟩ : Tu), 0)))
def m_ref12_Last (x0 : Tu) : Option (Int) :=
  some (IntKind.wrap .i64 (x0.snap.index + (x0.log.length : Int)))
def m_ref12_Cut (x0 : Tu) (x1 : Int) : Option (Tu × Int) :=
  cond (decide (x1 ≤ x0.snap.index))
   (
    (m_ref12_Own x0).bind fun r19 =>
    some (r19, 2))
   (
    (m_ref12_Last x0).bind fun r25 =>
    cond (decide ((IntKind.wrap .i64 (r25 + 1)) < x1))
     (
      (m_ref12_Own x0).bind fun r38 =>
      some (r38, 2))
     (
      (m_ref12_Own x0).bind fun r45 =>
      (takeI r45.log (IntKind.wrap .i64 ((IntKind.wrap .i64 (x1 - x0.snap.index)) - 1))).bind fun l54 =>
      (m_ref12_Right x0).bind fun r66 =>
      cond (!r66)
       (
        (m_ref12_Own x0).bind fun r69 =>
        some (r69, 2))
       (
        (m_ref12_Right (⟨r45.snap, l54, r45.term, r45.vote⟩ : Tu)).bind fun r75 =>
        cond (!r75)
         (
          (m_ref12_Own x0).bind fun r78 =>
          some (r78, 2))
         (
          some ((⟨r45.snap, l54, r45.term, r45.vote⟩ : Tu), 0)))))
def m_ref12_At (x0 : Tu) (x1 : Int) : Option (En × Bool) :=
  cond (decide (x1 ≤ x0.snap.index))
   (
    some ((⟨0, 0, 0⟩ : En), false))
   (
    (m_ref12_Last x0).bind fun r9 =>
    cond (decide (r9 < x1))
     (
      some ((⟨0, 0, 0⟩ : En), false))
     (
      (idx x0.log (IntKind.wrap .i64 ((IntKind.wrap .i64 (x1 - x0.snap.index)) - 1))).bind fun e13 =>
      some (e13, true)))
def m_ref12_TermAt (x0 : Tu) (x1 : Int) : Option (Int × Bool) :=
  cond (decide (x1 = x0.snap.index))
   (
    some (x0.snap.term, true))
   (
    (m_ref12_At x0 x1).bind fun r8 =>
    some (r8.1.term, r8.2))
def m_ref12_Save (x0 : Tu) (x1 : St) : Option (Tu × Int) :=
  (m_ref12_TermAt x0 x1.index).bind fun r9 =>
  cond (!r9.2)
   (
    (m_ref12_Own x0).bind fun r24 =>
    some (r24, 2))
   (
    cond (decide (r9.1 ≠ x1.term))
     (
      (m_ref12_Own x0).bind fun r41 =>
      some (r41, 2))
     (
      (m_ref06_Fine x1).bind fun r47 =>
      cond (!r47)
       (
        (m_ref12_Own x0).bind fun r60 =>
        some (r60, 2))
       (
        (m_ref12_Own x0).bind fun r67 =>
        (dropI r67.log (IntKind.wrap .i64 (x1.index - x0.snap.index))).bind fun l78 =>
        (fewI ([] ++ l78)).bind fun l80 =>
        (m_ref12_Right x0).bind fun r96 =>
        cond (!r96)
         (
          (m_ref12_Own x0).bind fun r99 =>
          some (r99, 2))
         (
          (m_ref12_Right (⟨x1, l80, r67.term, r67.vote⟩ : Tu)).bind fun r105 =>
          cond (!r105)
           (
            (m_ref12_Own x0).bind fun r108 =>
            some (r108, 2))
           (
            some ((⟨x1, l80, r67.term, r67.vote⟩ : Tu), 0))))))
def m_ref12_Install (x0 : Tu) (x1 : St) : Option (Tu × Int) :=
  cond (decide (x1.index ≤ x0.snap.index))
   (
    (m_ref12_Own x0).bind fun r21 =>
    some (r21, 2))
   (
    cond (decide (x0.term < x1.term))
     (
      (m_ref12_Own x0).bind fun r38 =>
      some (r38, 2))
     (
      (m_ref12_TermAt x0 x1.index).bind fun r45 =>
      cond r45.2
       (
        cond (decide (r45.1 = x1.term))
         (
          (m_ref12_Save x0 x1).bind fun r50 =>
          some (r50.1, r50.2))
         (
          (m_ref12_Right x0).bind fun r66 =>
          cond (!r66)
           (
            (m_ref12_Own x0).bind fun r69 =>
            some (r69, 2))
           (
            (m_ref12_Right (⟨x1, [], x0.term, x0.vote⟩ : Tu)).bind fun r75 =>
            cond (!r75)
             (
              (m_ref12_Own x0).bind fun r78 =>
              some (r78, 2))
             (
              some ((⟨x1, [], x0.term, x0.vote⟩ : Tu), 0)))))
       (
        (m_ref12_Right x0).bind fun r95 =>
        cond (!r95)
         (
          (m_ref12_Own x0).bind fun r98 =>
          some (r98, 2))
         (
          (m_ref12_Right (⟨x1, [], x0.term, x0.vote⟩ : Tu)).bind fun r104 =>
          cond (!r104)
           (
            (m_ref12_Own x0).bind fun r107 =>
            some (r107, 2))
           (
            some ((⟨x1, [], x0.term, x0.vote⟩ : Tu), 0))))))
def m_ref12_Hard (x0 : Tu) (x1 : Int) (x2 : Int) : Option (Tu × Int) :=
  (m_ref12_Own x0).bind fun r7 =>
  cond (decide (x0.term < x1))
   (
    (m_ref12_Right x0).bind fun r26 =>
    cond (!r26)
     (
      (m_ref12_Own x0).bind fun r29 =>
      some (r29, 2))
     (
      (m_ref12_Right (⟨r7.snap, r7.log, x1, x2⟩ : Tu)).bind fun r35 =>
      cond (!r35)
       (
        (m_ref12_Own x0).bind fun r38 =>
        some (r38, 2))
       (
        some ((⟨r7.snap, r7.log, x1, x2⟩ : Tu), 0))))
   (
    cond (decide (x1 = x0.term))
     (
      cond (decide (x0.vote = 0))
       (
        (m_ref12_Right x0).bind fun r54 =>
        cond (!r54)
         (
          (m_ref12_Own x0).bind fun r57 =>
          some (r57, 2))
         (
          (m_ref12_Right (⟨r7.snap, r7.log, x1, x2⟩ : Tu)).bind fun r63 =>
          cond (!r63)
           (
            (m_ref12_Own x0).bind fun r66 =>
            some (r66, 2))
           (
            some ((⟨r7.snap, r7.log, x1, x2⟩ : Tu), 0))))
       (
        cond (!(decide (x0.vote = x2)))
         (
          (m_ref12_Own x0).bind fun r83 =>
          some (r83, 2))
         (
          (m_ref12_Right x0).bind fun r89 =>
          cond (!r89)
           (
            (m_ref12_Own x0).bind fun r92 =>
            some (r92, 2))
           (
            (m_ref12_Right (⟨r7.snap, r7.log, x1, x2⟩ : Tu)).bind fun r98 =>
            cond (!r98)
             (
              (m_ref12_Own x0).bind fun r101 =>
              some (r101, 2))
             (
              some ((⟨r7.snap, r7.log, x1, x2⟩ : Tu), 0))))))
     (
      (m_ref12_Own x0).bind fun r118 =>
      some (r118, 2)))
def m_ref06_Next (x0 : St) (x1 : En) : Option (St) :=
  (m_ref06_Right x1).bind fun r10 =>
  cond (!r10)
   (
    some x0)
   (
    (m_ref06_Fine x0).bind fun r13 =>
    cond (!r13)
     (
      some x0)
     (
      cond (decide (1073741824 ≤ x0.index))
       (
        some x0)
       (
        cond (decide (x1.kind = 1))
         (
          some (⟨(IntKind.wrap .i64 (x0.index + 1)), x1.term, (Int.tmod (IntKind.wrap .i64 ((IntKind.wrap .i64 ((IntKind.wrap .i64 (31 * x0.sum)) + x1.value)) + 1)) 1073741824), x0.level, x0.final⟩ : St))
         (
          cond (decide (x1.kind = 2))
           (
            some (⟨(IntKind.wrap .i64 (x0.index + 1)), x1.term, x0.sum, 2, x0.final⟩ : St))
           (
            cond (decide (x1.kind = 3))
             (
              cond (!x0.final)
               (
                some (⟨(IntKind.wrap .i64 (x0.index + 1)), x1.term, x0.sum, 1, x0.final⟩ : St))
               (
                some (⟨(IntKind.wrap .i64 (x0.index + 1)), x1.term, x0.sum, x0.level, x0.final⟩ : St)))
             (
              cond (decide (x1.kind = 4))
               (
                some (⟨(IntKind.wrap .i64 (x0.index + 1)), x1.term, x0.sum, x0.level, (decide (x0.level = 2))⟩ : St))
               (
                some (⟨(IntKind.wrap .i64 (x0.index + 1)), x1.term, x0.sum, x0.level, x0.final⟩ : St))))))))
def m_ref06_All_l1 (x1 : List En) : Nat → Int → Int → Int → Int → Int → Bool → Option (St)
  | 0, _, _, _, _, _, _ => none
  | n + 1, v8, v9, v10, v11, v12, v13 =>
      cond (decide (v8 < (x1.length : Int)))
       (
        (idx x1 v8).bind fun e17 =>
        (m_ref06_Next (⟨v9, v10, v11, v12, v13⟩ : St) e17).bind fun r20 =>
        m_ref06_All_l1 x1 n (IntKind.wrap .i64 (v8 + 1)) r20.index r20.term r20.sum r20.level r20.final)
       (
        some (⟨v9, v10, v11, v12, v13⟩ : St))
def m_ref06_All (x0 : St) (x1 : List En) : Option (St) :=
  m_ref06_All_l1 x1 fuelN 0 x0.index x0.term x0.sum x0.level x0.final
def m_ref12_State (x0 : Tu) (x1 : Int) : Option (St × Bool) :=
  cond (decide (x1 < x0.snap.index))
   (
    some ((⟨0, 0, 0, 0, false⟩ : St), false))
   (
    (m_ref12_Last x0).bind fun r9 =>
    cond (decide (r9 < x1))
     (
      some ((⟨0, 0, 0, 0, false⟩ : St), false))
     (
      (takeI x0.log (IntKind.wrap .i64 (x1 - x0.snap.index))).bind fun l13 =>
      (m_ref06_All x0.snap l13).bind fun r15 =>
      some (r15, true)))
def m_ref12_First : Option (Tu) :=
  (m_ref06_First).bind fun r5 =>
  some (⟨r5, [], 0, 0⟩ : Tu)
def m_slices_Equal___api_Entry_api_Entry__l1 (x0 : List En) (x1 : List En) : Nat → Bool → Int → Option (Bool)
  | 0, _, _ => none
  | n + 1, v7, v8 =>
      cond (decide (v8 < (x0.length : Int)))
       (
        (idx x0 v8).bind fun e14 =>
        (idx x1 v8).bind fun e17 =>
        cond (!(decide (e14.term = e17.term) && (decide (e14.kind = e17.kind) && (decide (e14.value = e17.value)))))
         (
          some false)
         (
          m_slices_Equal___api_Entry_api_Entry__l1 x0 x1 n v7 (IntKind.wrap .i64 (v8 + 1))))
       (
        some true)
def m_slices_Equal___api_Entry_api_Entry_ (x0 : List En) (x1 : List En) : Option (Bool) :=
  cond (decide ((x0.length : Int) ≠ (x1.length : Int)))
   (
    some false)
   (
    m_slices_Equal___api_Entry_api_Entry__l1 x0 x1 fuelN false 0)
def m_tuple_Same (x0 : Tu) (x1 : Tu) : Option (Bool) :=
  cond (decide (x0.snap.index = x1.snap.index) && (decide (x0.snap.term = x1.snap.term) && (decide (x0.snap.sum = x1.snap.sum) && (decide (x0.snap.level = x1.snap.level) && (decide (x0.snap.final = x1.snap.final))))))
   (
    cond (decide (x0.term = x1.term))
     (
      cond (decide (x0.vote = x1.vote))
       (
        (m_slices_Equal___api_Entry_api_Entry_ x0.log x1.log).bind fun r7 =>
        some r7)
       (
        some false))
     (
      some false))
   (
    some false)
def m_law12_TupleTells (x0 : Tu) (x1 : Tu) (x2 : List En) (x3 : St) (x4 : Int) (x5 : Int) (x6 : Int) : Option (Bool) :=
  (m_ref12_Great x0).bind fun r10 =>
  cond r10
   (
    (m_law12_wakes).bind fun r13 =>
    some r13)
   (
    (m_ref12_Great x1).bind fun r15 =>
    cond r15
     (
      (m_law12_wakes).bind fun r18 =>
      some r18)
     (
      cond (decide (100 < (x2.length : Int)))
       (
        (m_law12_wakes).bind fun r21 =>
        some r21)
       (
        cond (decide (1099511627776 < x0.snap.index))
         (
          (m_law12_wakes).bind fun r24 =>
          some r24)
         (
          cond (decide (x0.snap.index < (-1099511627776)))
           (
            (m_law12_wakes).bind fun r27 =>
            some r27)
           (
            cond (decide (1099511627776 < x4))
             (
              (m_law12_wakes).bind fun r30 =>
              some r30)
             (
              cond (decide (x4 < (-1099511627776)))
               (
                (m_law12_wakes).bind fun r33 =>
                some r33)
               (
                cond (decide (1099511627776 < x3.index))
                 (
                  (m_law12_wakes).bind fun r36 =>
                  some r36)
                 (
                  cond (decide (x3.index < (-1099511627776)))
                   (
                    (m_law12_wakes).bind fun r39 =>
                    some r39)
                   (
                    (m_tuple_Append x0 x2).bind fun r42 =>
                    (m_ref12_Append x0 x2).bind fun r51 =>
                    (m_tuple_Cut x0 x4).bind fun r60 =>
                    (m_ref12_Cut x0 x4).bind fun r69 =>
                    (m_ref12_Same r42.1 r51.1).bind fun r79 =>
                    cond (!r79)
                     (
                      some false)
                     (
                      cond (decide (r42.2 ≠ r51.2))
                       (
                        some false)
                       (
                        (m_ref12_Same r60.1 r69.1).bind fun r83 =>
                        cond (!r83)
                         (
                          some false)
                         (
                          cond (decide (r60.2 ≠ r69.2))
                           (
                            some false)
                           (
                            (m_tuple_Save x0 x3).bind fun r88 =>
                            (m_ref12_Save x0 x3).bind fun r95 =>
                            (m_tuple_Install x0 x3).bind fun r102 =>
                            (m_ref12_Install x0 x3).bind fun r109 =>
                            (m_ref12_Same r88.1 r95.1).bind fun r117 =>
                            cond (!r117)
                             (
                              some false)
                             (
                              cond (decide (r88.2 ≠ r95.2))
                               (
                                some false)
                               (
                                (m_ref12_Same r102.1 r109.1).bind fun r121 =>
                                cond (!r121)
                                 (
                                  some false)
                                 (
                                  cond (decide (r102.2 ≠ r109.2))
                                   (
                                    some false)
                                   (
                                    (m_tuple_Hard x0 x5 x6).bind fun r126 =>
                                    (m_ref12_Hard x0 x5 x6).bind fun r133 =>
                                    (m_tuple_TermAt x0 x4).bind fun r140 =>
                                    (m_ref12_TermAt x0 x4).bind fun r143 =>
                                    (m_tuple_At x0 x4).bind fun r146 =>
                                    (m_ref12_At x0 x4).bind fun r151 =>
                                    (m_tuple_State x0 x4).bind fun r156 =>
                                    (m_ref12_State x0 x4).bind fun r161 =>
                                    (m_ref12_Same r126.1 r133.1).bind fun r167 =>
                                    cond (!r167)
                                     (
                                      some false)
                                     (
                                      cond (decide (r126.2 ≠ r133.2))
                                       (
                                        some false)
                                       (
                                        cond (decide (r140.1 ≠ r143.1))
                                         (
                                          some false)
                                         (
                                          cond (decide (r140.2 ≠ r143.2))
                                           (
                                            some false)
                                           (
                                            cond (!(decide (r146.1.term = r151.1.term) && (decide (r146.1.kind = r151.1.kind) && (decide (r146.1.value = r151.1.value)))))
                                             (
                                              some false)
                                             (
                                              cond (decide (r146.2 ≠ r151.2))
                                               (
                                                some false)
                                               (
                                                cond (!(decide (r156.1.index = r161.1.index) && (decide (r156.1.term = r161.1.term) && (decide (r156.1.sum = r161.1.sum) && (decide (r156.1.level = r161.1.level) && (decide (r156.1.final = r161.1.final)))))))
                                                 (
                                                  some false)
                                                 (
                                                  cond (decide (r156.2 ≠ r161.2))
                                                   (
                                                    some false)
                                                   (
                                                    (m_tuple_Right x0).bind fun r178 =>
                                                    (m_ref12_Right x0).bind fun r180 =>
                                                    cond (decide (r178 = r180))
                                                     (
                                                      (m_tuple_Last x0).bind fun r182 =>
                                                      (m_ref12_Last x0).bind fun r184 =>
                                                      cond (decide (r182 = r184))
                                                       (
                                                        (m_tuple_First).bind fun r186 =>
                                                        (m_ref12_First).bind fun r192 =>
                                                        (m_ref12_Same r186 r192).bind fun r198 =>
                                                        cond r198
                                                         (
                                                          (m_tuple_Same x0 x1).bind fun r200 =>
                                                          (m_ref12_Same x0 x1).bind fun r202 =>
                                                          cond (decide (r200 = r202))
                                                           (
                                                            (m_tuple_Own x0).bind fun r204 =>
                                                            (m_ref12_Same r204 x0).bind fun r210 =>
                                                            cond r210
                                                             (
                                                              (m_law12_wakes).bind fun r212 =>
                                                              some r212)
                                                             (
                                                              some false))
                                                           (
                                                            some false))
                                                         (
                                                          some false))
                                                       (
                                                        some false))
                                                     (
                                                      some false))))))))))))))))))))))))))
end Go.Proofs.Ythngkojbokknfaa
