/- Texts of one claim put together: what its walks share. -/
import Derived.Test.YtofheinbbefbcaaDoorMv1
import Derived.Test.YtofheinbbefbcaaDoorMv0
/- What functions compute, in plain terms; printed. -/
namespace Go.Proofs.YtofheinbbefbcaaDoor
open Go Go.RowKit
set_option maxRecDepth 100000

def m_one_Scan_r1 (r20 : Int × List UInt8 × Int) : List (Int × En) → List En → Int → Option (Sc × Int)
  | [], v42, v47 =>
      some ((⟨r20.1, v42, v47⟩ : Sc), 0)
  | e41 :: l0, v42, v47 =>
      (fewI (v42 ++ ([e41.2] : List En))).bind fun l55 =>
      m_one_Scan_r1 r20 l0 l55 e41.1
def m_one_Scan (x0 : List UInt8) : Option (Sc × Int) :=
  cond (decide ((x0.length : Int) < 6))
   (
    some ((⟨0, [], 0⟩ : Sc), 11))
   (
    (idx x0 0).bind fun e9 =>
    cond (decide ((e9.toNat : Int) ≠ 1))
     (
      some ((⟨0, [], 0⟩ : Sc), 11))
     (
      (takeI x0 6).bind fun l16 =>
      (dropI l16 1).bind fun l18 =>
      (m_num_TakeLong l18).bind fun r20 =>
      cond (decide (r20.2.2 ≠ 0))
       (
        some ((⟨0, [], 0⟩ : Sc), 11))
       (
        cond (decide (r20.1 = 0))
         (
          some ((⟨0, [], 0⟩ : Sc), 11))
         (
          (m_it_records x0).bind fun xs48 =>
          m_one_Scan_r1 r20 xs48 [] 6))))
def m_law07_wakes : Option (Bool) :=
  (m_one_Head 5).bind fun r3 =>
  (m_one_File 5 ([(⟨1, 1, 7⟩ : En)] : List En)).bind fun r12 =>
  (fewI ([] ++ r12.1)).bind fun l21 =>
  (fewI (l21 ++ ([9] : List UInt8))).bind fun l28 =>
  (m_one_Scan l28).bind fun r33 =>
  (m_one_Head 0).bind fun r42 =>
  (m_one_Put ([(⟨0, 0, 0⟩ : En)] : List En)).bind fun r51 =>
  (m_one_Scan ([2, 0, 0, 0, 0, 5] : List UInt8)).bind fun r60 =>
  (m_law07_same r3.1 ([1, 0, 0, 0, 0, 5] : List UInt8)).bind fun r71 =>
  cond r71
   (
    cond (decide (r3.2 = 0))
     (
      cond (decide (r12.2 = 0))
       (
        cond (decide ((r12.1.length : Int) = 21))
         (
          (m_one_Size 1).bind fun r77 =>
          cond (decide (r77 = 21))
           (
            cond (decide (r33.2 = 0))
             (
              cond (decide (r33.1.first = 5))
               (
                cond (decide ((r33.1.log.length : Int) = 1))
                 (
                  (idx r33.1.log 0).bind fun e83 =>
                  cond (decide (e83.value = 7))
                   (
                    cond (decide (r33.1.used = 21))
                     (
                      cond (decide (r42.2 = 2))
                       (
                        cond (decide (r51.2 = 2))
                         (
                          some (decide (r60.2 = 11)))
                         (
                          some false))
                       (
                        some false))
                     (
                      some false))
                   (
                    some false))
                 (
                  some false))
               (
                some false))
             (
              some false))
           (
            some false))
         (
          some false))
       (
        some false))
     (
      some false))
   (
    some false)
def m_law07_OneTells (x0 : Int) (x1 : List En) (x2 : List UInt8) : Option (Bool) :=
  cond (decide (40 < (x1.length : Int)))
   (
    (m_law07_wakes).bind fun r6 =>
    some r6)
   (
    cond (decide (900 < (x2.length : Int)))
     (
      (m_law07_wakes).bind fun r11 =>
      some r11)
     (
      (m_one_Head x0).bind fun r15 =>
      (m_ref07_Head x0).bind fun r22 =>
      (m_one_Put x1).bind fun r29 =>
      (m_ref07_Put x1).bind fun r36 =>
      (m_law07_same r15.1 r22.1).bind fun r44 =>
      cond (!r44)
       (
        some false)
       (
        cond (decide (r15.2 ≠ r22.2))
         (
          some false)
         (
          (m_law07_same r29.1 r36.1).bind fun r52 =>
          cond (!r52)
           (
            some false)
           (
            cond (decide (r29.2 ≠ r36.2))
             (
              some false)
             (
              (m_one_Size x0).bind fun r60 =>
              (m_ref07_Size x0).bind fun r62 =>
              cond (decide (r60 ≠ r62))
               (
                some false)
               (
                (m_one_File x0 x1).bind fun r68 =>
                (m_ref07_File x0 x1).bind fun r75 =>
                (m_one_Scan x2).bind fun r82 =>
                (m_ref07_Scan x2).bind fun r91 =>
                (m_law07_same r68.1 r75.1).bind fun r100 =>
                cond r100
                 (
                  cond (decide (r68.2 = r75.2))
                   (
                    (m_ref07_Same r82.1 r91.1).bind fun r104 =>
                    cond r104
                     (
                      cond (decide (r82.2 = r91.2))
                       (
                        (m_law07_wakes).bind fun r108 =>
                        some r108)
                       (
                        some false))
                     (
                      some false))
                   (
                    some false))
                 (
                  some false))))))))
def m_law07_OneOnly (x0 : List UInt8) : Option (Bool) :=
  cond (decide (900 < (x0.length : Int)))
   (
    (m_law07_wakes).bind fun r6 =>
    some r6)
   (
    (m_one_Scan x0).bind fun r10 =>
    cond (decide (r10.2 ≠ 0))
     (
      cond (decide (r10.2 = 11))
       (
        cond (decide ((r10.1.log.length : Int) = 0))
         (
          cond (decide (r10.1.used = 0))
           (
            cond (decide (r10.1.first = 0))
             (
              (m_law07_wakes).bind fun r26 =>
              some r26)
             (
              some false))
           (
            some false))
         (
          some false))
       (
        some false))
     (
      (m_one_File r10.1.first r10.1.log).bind fun r34 =>
      cond (decide (r34.2 ≠ 0))
       (
        some false)
       (
        cond (decide (r10.1.used < 6))
         (
          some false)
         (
          cond (decide ((x0.length : Int) < r10.1.used))
           (
            some false)
           (
            (takeI x0 r10.1.used).bind fun l52 =>
            (m_law07_same r34.1 l52).bind fun r54 =>
            cond r54
             (
              (m_one_Size (r10.1.log.length : Int)).bind fun r57 =>
              cond (decide (r57 = r10.1.used))
               (
                (m_law07_wakes).bind fun r60 =>
                some r60)
               (
                some false))
             (
              some false))))))
def m_law07_OneMore (x0 : Int) (x1 : List En) (x2 : List En) : Option (Bool) :=
  cond (decide (20 < (x1.length : Int)))
   (
    (m_law07_wakes).bind fun r6 =>
    some r6)
   (
    cond (decide (20 < (x2.length : Int)))
     (
      (m_law07_wakes).bind fun r11 =>
      some r11)
     (
      (fewI ([] ++ x1)).bind fun l17 =>
      (fewI (l17 ++ x2)).bind fun l22 =>
      (m_one_Head x0).bind fun r28 =>
      (m_one_Put x1).bind fun r35 =>
      (m_one_Put x2).bind fun r42 =>
      (m_one_File x0 l22).bind fun r49 =>
      cond (decide (r28.2 ≠ 0))
       (
        cond (decide (r49.2 = 2))
         (
          (m_law07_wakes).bind fun r60 =>
          some r60)
         (
          some false))
       (
        cond (decide (r35.2 ≠ 0))
         (
          cond (decide (r49.2 = 2))
           (
            (m_law07_wakes).bind fun r67 =>
            some r67)
           (
            some false))
         (
          cond (decide (r42.2 ≠ 0))
           (
            cond (decide (r49.2 = 2))
             (
              (m_law07_wakes).bind fun r74 =>
              some r74)
             (
              some false))
           (
            (m_one_Scan r49.1).bind fun r79 =>
            cond (decide (r49.2 = 0))
             (
              cond (decide (r79.2 = 0))
               (
                (fewI ([] ++ r28.1)).bind fun l92 =>
                (fewI (l92 ++ r35.1)).bind fun l97 =>
                (fewI (l97 ++ r42.1)).bind fun l102 =>
                (m_law07_same l102 r49.1).bind fun r107 =>
                cond r107
                 (
                  (m_ref07_Entries r79.1.log l22).bind fun r110 =>
                  cond r110
                   (
                    (m_law07_wakes).bind fun r113 =>
                    some r113)
                   (
                    some false))
                 (
                  some false))
               (
                some false))
             (
              some false))))))
def m_law07_OneApart (x0 : En) (x1 : En) (x2 : Int) (x3 : Int) : Option (Bool) :=
  (m_one_Put ([x0] : List En)).bind fun r9 =>
  (m_one_Put ([x1] : List En)).bind fun r18 =>
  (m_one_Head x2).bind fun r25 =>
  (m_one_Head x3).bind fun r32 =>
  cond (decide (r9.2 = 0))
   (
    cond (decide (r18.2 = 0))
     (
      (m_law07_same r9.1 r18.1).bind fun r42 =>
      cond (decide (r42 ≠ (decide (x0.term = x1.term) && (decide (x0.kind = x1.kind) && (decide (x0.value = x1.value))))))
       (
        some false)
       (
        (m_ref06_Right x0).bind fun r47 =>
        cond (decide ((decide (r9.2 = 0)) ≠ r47))
         (
          some false)
         (
          (m_ref06_Right x1).bind fun r52 =>
          cond (decide ((decide (r18.2 = 0)) ≠ r52))
           (
            some false)
           (
            cond (decide (r25.2 = 0))
             (
              cond (decide (r32.2 = 0))
               (
                (m_law07_same r25.1 r32.1).bind fun r61 =>
                cond (decide (r61 ≠ (decide (x2 = x3))))
                 (
                  some false)
                 (
                  cond (decide (r9.2 ≠ 0))
                   (
                    cond (decide (1 ≤ x2))
                     (
                      cond (decide ((decide (r25.2 = 0)) = (decide (x2 ≤ 1073741824))))
                       (
                        (m_law07_wakes).bind fun r70 =>
                        some r70)
                       (
                        some false))
                     (
                      cond (decide ((decide (r25.2 = 0)) = false))
                       (
                        (m_law07_wakes).bind fun r75 =>
                        some r75)
                       (
                        some false)))
                   (
                    cond (decide ((r9.1.length : Int) = 15))
                     (
                      cond (decide (1 ≤ x2))
                       (
                        cond (decide ((decide (r25.2 = 0)) = (decide (x2 ≤ 1073741824))))
                         (
                          (m_law07_wakes).bind fun r82 =>
                          some r82)
                         (
                          some false))
                       (
                        cond (decide ((decide (r25.2 = 0)) = false))
                         (
                          (m_law07_wakes).bind fun r87 =>
                          some r87)
                         (
                          some false)))
                     (
                      some false))))
               (
                cond (decide (r9.2 ≠ 0))
                 (
                  cond (decide (1 ≤ x2))
                   (
                    cond (decide ((decide (r25.2 = 0)) = (decide (x2 ≤ 1073741824))))
                     (
                      (m_law07_wakes).bind fun r96 =>
                      some r96)
                     (
                      some false))
                   (
                    cond (decide ((decide (r25.2 = 0)) = false))
                     (
                      (m_law07_wakes).bind fun r101 =>
                      some r101)
                     (
                      some false)))
                 (
                  cond (decide ((r9.1.length : Int) = 15))
                   (
                    cond (decide (1 ≤ x2))
                     (
                      cond (decide ((decide (r25.2 = 0)) = (decide (x2 ≤ 1073741824))))
                       (
                        (m_law07_wakes).bind fun r108 =>
                        some r108)
                       (
                        some false))
                     (
                      cond (decide ((decide (r25.2 = 0)) = false))
                       (
                        (m_law07_wakes).bind fun r113 =>
                        some r113)
                       (
                        some false)))
                   (
                    some false))))
             (
              cond (decide (r9.2 ≠ 0))
               (
                cond (decide (1 ≤ x2))
                 (
                  cond (decide ((decide (r25.2 = 0)) = (decide (x2 ≤ 1073741824))))
                   (
                    (m_law07_wakes).bind fun r122 =>
                    some r122)
                   (
                    some false))
                 (
                  cond (decide ((decide (r25.2 = 0)) = false))
                   (
                    (m_law07_wakes).bind fun r127 =>
                    some r127)
                   (
                    some false)))
               (
                cond (decide ((r9.1.length : Int) = 15))
                 (
                  cond (decide (1 ≤ x2))
                   (
                    cond (decide ((decide (r25.2 = 0)) = (decide (x2 ≤ 1073741824))))
                     (
                      (m_law07_wakes).bind fun r134 =>
                      some r134)
                     (
                      some false))
                   (
                    cond (decide ((decide (r25.2 = 0)) = false))
                     (
                      (m_law07_wakes).bind fun r139 =>
                      some r139)
                     (
                      some false)))
                 (
                  some false)))))))
     (
      (m_ref06_Right x0).bind fun r144 =>
      cond (decide ((decide (r9.2 = 0)) ≠ r144))
       (
        some false)
       (
        (m_ref06_Right x1).bind fun r149 =>
        cond (decide ((decide (r18.2 = 0)) ≠ r149))
         (
          some false)
         (
          cond (decide (r25.2 = 0))
           (
            cond (decide (r32.2 = 0))
             (
              (m_law07_same r25.1 r32.1).bind fun r158 =>
              cond (decide (r158 ≠ (decide (x2 = x3))))
               (
                some false)
               (
                cond (decide (r9.2 ≠ 0))
                 (
                  cond (decide (1 ≤ x2))
                   (
                    cond (decide ((decide (r25.2 = 0)) = (decide (x2 ≤ 1073741824))))
                     (
                      (m_law07_wakes).bind fun r167 =>
                      some r167)
                     (
                      some false))
                   (
                    cond (decide ((decide (r25.2 = 0)) = false))
                     (
                      (m_law07_wakes).bind fun r172 =>
                      some r172)
                     (
                      some false)))
                 (
                  cond (decide ((r9.1.length : Int) = 15))
                   (
                    cond (decide (1 ≤ x2))
                     (
                      cond (decide ((decide (r25.2 = 0)) = (decide (x2 ≤ 1073741824))))
                       (
                        (m_law07_wakes).bind fun r179 =>
                        some r179)
                       (
                        some false))
                     (
                      cond (decide ((decide (r25.2 = 0)) = false))
                       (
                        (m_law07_wakes).bind fun r184 =>
                        some r184)
                       (
                        some false)))
                   (
                    some false))))
             (
              cond (decide (r9.2 ≠ 0))
               (
                cond (decide (1 ≤ x2))
                 (
                  cond (decide ((decide (r25.2 = 0)) = (decide (x2 ≤ 1073741824))))
                   (
                    (m_law07_wakes).bind fun r193 =>
                    some r193)
                   (
                    some false))
                 (
                  cond (decide ((decide (r25.2 = 0)) = false))
                   (
                    (m_law07_wakes).bind fun r198 =>
                    some r198)
                   (
                    some false)))
               (
                cond (decide ((r9.1.length : Int) = 15))
                 (
                  cond (decide (1 ≤ x2))
                   (
                    cond (decide ((decide (r25.2 = 0)) = (decide (x2 ≤ 1073741824))))
                     (
                      (m_law07_wakes).bind fun r205 =>
                      some r205)
                     (
                      some false))
                   (
                    cond (decide ((decide (r25.2 = 0)) = false))
                     (
                      (m_law07_wakes).bind fun r210 =>
                      some r210)
                     (
                      some false)))
                 (
                  some false))))
           (
            cond (decide (r9.2 ≠ 0))
             (
              cond (decide (1 ≤ x2))
               (
                cond (decide ((decide (r25.2 = 0)) = (decide (x2 ≤ 1073741824))))
                 (
                  (m_law07_wakes).bind fun r219 =>
                  some r219)
                 (
                  some false))
               (
                cond (decide ((decide (r25.2 = 0)) = false))
                 (
                  (m_law07_wakes).bind fun r224 =>
                  some r224)
                 (
                  some false)))
             (
              cond (decide ((r9.1.length : Int) = 15))
               (
                cond (decide (1 ≤ x2))
                 (
                  cond (decide ((decide (r25.2 = 0)) = (decide (x2 ≤ 1073741824))))
                   (
                    (m_law07_wakes).bind fun r231 =>
                    some r231)
                   (
                    some false))
                 (
                  cond (decide ((decide (r25.2 = 0)) = false))
                   (
                    (m_law07_wakes).bind fun r236 =>
                    some r236)
                   (
                    some false)))
               (
                some false)))))))
   (
    (m_ref06_Right x0).bind fun r241 =>
    cond (decide ((decide (r9.2 = 0)) ≠ r241))
     (
      some false)
     (
      (m_ref06_Right x1).bind fun r246 =>
      cond (decide ((decide (r18.2 = 0)) ≠ r246))
       (
        some false)
       (
        cond (decide (r25.2 = 0))
         (
          cond (decide (r32.2 = 0))
           (
            (m_law07_same r25.1 r32.1).bind fun r255 =>
            cond (decide (r255 ≠ (decide (x2 = x3))))
             (
              some false)
             (
              cond (decide (r9.2 ≠ 0))
               (
                cond (decide (1 ≤ x2))
                 (
                  cond (decide ((decide (r25.2 = 0)) = (decide (x2 ≤ 1073741824))))
                   (
                    (m_law07_wakes).bind fun r264 =>
                    some r264)
                   (
                    some false))
                 (
                  cond (decide ((decide (r25.2 = 0)) = false))
                   (
                    (m_law07_wakes).bind fun r269 =>
                    some r269)
                   (
                    some false)))
               (
                cond (decide ((r9.1.length : Int) = 15))
                 (
                  cond (decide (1 ≤ x2))
                   (
                    cond (decide ((decide (r25.2 = 0)) = (decide (x2 ≤ 1073741824))))
                     (
                      (m_law07_wakes).bind fun r276 =>
                      some r276)
                     (
                      some false))
                   (
                    cond (decide ((decide (r25.2 = 0)) = false))
                     (
                      (m_law07_wakes).bind fun r281 =>
                      some r281)
                     (
                      some false)))
                 (
                  some false))))
           (
            cond (decide (r9.2 ≠ 0))
             (
              cond (decide (1 ≤ x2))
               (
                cond (decide ((decide (r25.2 = 0)) = (decide (x2 ≤ 1073741824))))
                 (
                  (m_law07_wakes).bind fun r290 =>
                  some r290)
                 (
                  some false))
               (
                cond (decide ((decide (r25.2 = 0)) = false))
                 (
                  (m_law07_wakes).bind fun r295 =>
                  some r295)
                 (
                  some false)))
             (
              cond (decide ((r9.1.length : Int) = 15))
               (
                cond (decide (1 ≤ x2))
                 (
                  cond (decide ((decide (r25.2 = 0)) = (decide (x2 ≤ 1073741824))))
                   (
                    (m_law07_wakes).bind fun r302 =>
                    some r302)
                   (
                    some false))
                 (
                  cond (decide ((decide (r25.2 = 0)) = false))
                   (
                    (m_law07_wakes).bind fun r307 =>
                    some r307)
                   (
                    some false)))
               (
                some false))))
         (
          cond (decide (r9.2 ≠ 0))
           (
            cond (decide (1 ≤ x2))
             (
              cond (decide ((decide (r25.2 = 0)) = (decide (x2 ≤ 1073741824))))
               (
                (m_law07_wakes).bind fun r316 =>
                some r316)
               (
                some false))
             (
              cond (decide ((decide (r25.2 = 0)) = false))
               (
                (m_law07_wakes).bind fun r321 =>
                some r321)
               (
                some false)))
           (
            cond (decide ((r9.1.length : Int) = 15))
             (
              cond (decide (1 ≤ x2))
               (
                cond (decide ((decide (r25.2 = 0)) = (decide (x2 ≤ 1073741824))))
                 (
                  (m_law07_wakes).bind fun r328 =>
                  some r328)
                 (
                  some false))
               (
                cond (decide ((decide (r25.2 = 0)) = false))
                 (
                  (m_law07_wakes).bind fun r333 =>
                  some r333)
                 (
                  some false)))
             (
              some false))))))
end Go.Proofs.YtofheinbbefbcaaDoor
/- What functions compute, in plain terms, and that they do; printed. -/
namespace Go.Proofs.YtofheinbbefbcaaDoor
open Go Go.RowKit
set_option maxRecDepth 100000
set_option maxHeartbeats 4000000
theorem c_one_records (x0 : List UInt8) (A0_ : Option Addr) (c0_ : Nat) (w0 : World) (s0_ : SlI w0 enY A0_ c0_ x0) : Calls Tryd.prog 55 #[.slice A0_ x0.length c0_] w0 fun e w' => ∃ (b0_ : Nat), e = .returned (.func (.func 90) #[] #[.pointer (some ⟨b0_, 0, none⟩)]) ∧ St0 All w0 w' [.box b0_ [.slice A0_ x0.length c0_] 23] := by
  refine gw_enter1 Tryd.func55 rfl Tryd.ntmps55 rfl ?_
  have hS := St0.start All w0
  refine wpC_seq_k (fun K hK1 => ?_)
  refine wpC_region ?_
  refine wpS_box rfl rfl rfl CellsOf.slice hS (fun b2 w hS hB => ?_)
  refine wpS_quick 1 rfl ?_
  refine wpS_nil ?_
  refine QH_seq_k hK1 ?_
  refine wpC_seq_k (fun K hK4 => ?_)
  refine wpC_region ?_
  refine wpS_put rfl rfl rfl (yv_makeFunc rfl rfl) ?_
  refine wpS_quick 1 rfl ?_
  refine wpS_nil ?_
  refine QH_seq_k hK4 ?_
  refine wpC_ret ?_
  refine QH_ret rfl (RV.tmp rfl RV.nil) rfl ?_
  exact ⟨b2, rfl, hS.sub (List.Sublist.cons_cons _ List.Sublist.slnil)⟩
theorem c_one_Scan (x0 : List UInt8) (A0_ : Option Addr) (c0_ : Nat) (w0 : World) (s0_ : SlI w0 enY A0_ c0_ x0) (hT_ : SlI w0 enU (some ⟨0, 0, none⟩) 16 tabU) {r : Sc × Int} (H : m_one_Scan x0 = some r) : Calls Tryd.prog 23 #[.slice A0_ x0.length c0_] w0 fun e w' => ∃ (A0 : Option Addr) (c0 : Nat), e = .returned (.tuple #[.agg #[.int .i64 r.1.first, .slice A0 r.1.log.length c0, .int .i64 r.1.used], .int .i64 r.2]) ∧ (r.1.log.length ≤ c0 ∧ c0 ≤ maxLen) ∧ St0 All w0 w' [.row (.slice A0 r.1.log.length c0) 40 3 r.1.log.length (encs enE r.1.log)] := by
  unfold m_one_Scan at H
  refine gw_enter1 Tryd.func23 rfl Tryd.ntmps23 rfl ?_
  have hS := St0.start All w0
  refine wpC_seq_k (fun K hK1 => ?_)
  refine wpC_region ?_
  refine wpS_alloc rfl rfl zc_33 hS (fun b2 w hS hB => ?_)
  refine wpS_quick 1 rfl ?_
  refine wpS_nil ?_
  refine QH_seq_k hK1 ?_
  refine wpC_seq_k (fun K hK4 => ?_)
  refine wpC_seq_k (fun K hK5 => ?_)
  refine wpC_region ?_
  refine wpS_quick 1 rfl ?_
  refine wpS_put rfl rfl rfl (yv_len el_23 rfl) ?_
  refine wpS_put rfl rfl rfl (yv_lss rfl rfl) ?_
  refine wpS_quick 1 rfl ?_
  refine wpS_case 11 rfl (fun hb => ?_) (fun hb => ?_)
  · replace H := cond_t H hb
    refine wpS_quick 5 rfl ?_
    refine wpS_nil ?_
    refine QH_seq_k hK5 ?_
    refine wpC_cond_t rfl rfl ?_
    refine wpC_seq_k (fun K hK7 => ?_)
    refine wpC_region ?_
    refine wpS_put rfl rfl rfl (yv_load_boxA ag_33 rfl (RW.here _) hS hs0 trivial sg0_3) ?_
    refine wpS_store rfl rfl rfl CellsOf.agg hS ps0 st0_3 (by kernel_rfl) rfl (fun w hS hB => ?_)
    refine wpS_quick 1 rfl ?_
    refine wpS_nil ?_
    refine QH_seq_k hK7 ?_
    refine wpC_ret ?_
    refine QH_then_ret ?_
    refine QH_ret rfl (RV.cell rfl (load_boxA ag_33 hS hs0 sg0_3) (RV.tmp rfl RV.nil)) rfl ?_
    obtain rfl := Option.some.inj H
    have hS := hS.nilRow 40 3
    replace hS := hS.cut 1
    exact ⟨none, 0, rfl, ⟨Nat.le_refl _, Nat.zero_le _⟩, hS⟩
  replace H := cond_f H hb
  refine wpS_quick 1 rfl ?_
  obtain ⟨e9, hi11, H⟩ := bind_some H
  obtain ⟨j10, hi11a, hi11b, hi11c⟩ := idx_some hi11
  refine wpS_put rfl rfl rfl (yx_idx el_23 rfl rfl hi11a hi11c (Rd.el (hS.rd0 s0_.rd) he_enY hi11b)) ?_
  refine wpS_put rfl rfl rfl (yx_ld0 sc_5 rfl (RW.here _) (Rd.el (hS.rd0 s0_.rd) he_enY hi11b) rfl) ?_
  refine wpS_put rfl rfl rfl (yv_neq rfl rfl) ?_
  refine wpS_quick 1 rfl ?_
  refine wpS_nil ?_
  refine QH_seq_k hK5 ?_
  refine wpC_cond rfl (fun hb => ?_) (fun hb => ?_)
  · replace H := cond_t H hb
    refine wpC_seq_k (fun K hK13 => ?_)
    refine wpC_region ?_
    refine wpS_put rfl rfl rfl (yv_load_boxA ag_33 rfl (RW.here _) hS hs0 trivial sg0_3) ?_
    refine wpS_store rfl rfl rfl CellsOf.agg hS ps0 st0_3 (by kernel_rfl) rfl (fun w hS hB => ?_)
    refine wpS_quick 1 rfl ?_
    refine wpS_nil ?_
    refine QH_seq_k hK13 ?_
    refine wpC_ret ?_
    refine QH_then_ret ?_
    refine QH_ret rfl (RV.cell rfl (load_boxA ag_33 hS hs0 sg0_3) (RV.tmp rfl RV.nil)) rfl ?_
    obtain rfl := Option.some.inj H
    have hS := hS.nilRow 40 3
    replace hS := hS.cut 1
    exact ⟨none, 0, rfl, ⟨Nat.le_refl _, Nat.zero_le _⟩, hS⟩
  replace H := cond_f H hb
  refine wpC_skip ?_
  refine QH_seq_k hK4 ?_
  refine wpC_seq_k (fun K hK15 => ?_)
  refine wpC_region ?_
  refine wpS_quick 1 rfl ?_
  obtain ⟨l16, ht17, H⟩ := bind_some H
  obtain ⟨l18, hd19, H⟩ := bind_some H
  refine wpS_put rfl rfl rfl (yx_slice_lh el_23 rfl rfl rfl s0_.k.1 ht17 hd19) ?_
  obtain ⟨r20, hm21, H⟩ := bind_some H
  refine wpS_call rfl rfl rfl rfl (by kernel_rfl) rfl (c_num_TakeLong l18 (cutA A0_ c0_ (Int.toNat 1) 1) (c0_ - Int.toNat 1) _ (SlI.of_rd (k_drop (k_take s0_.k ht17) hd19) (Rd.dropI he_enY (Rd.takeI he_enY (hS.rd0 s0_.rd) ht17) (k_take s0_.k ht17).1 hd19) (cutA_blk (hS.blk0 s0_.blk))) hm21) ?_
  rintro e w ⟨A22, c23, rfl, k24, hN⟩; refine ⟨_, rfl, ?_⟩; have hB := hN.pure; have hS := hS.join hN; clear hN
  refine wpS_quick 1 rfl ?_
  refine wpS_put rfl rfl rfl (yv_extract rfl rfl) ?_
  refine wpS_put rfl rfl rfl (yv_extract rfl rfl) ?_
  refine wpS_put rfl rfl rfl (yv_extract rfl rfl) ?_
  refine wpS_quick 3 rfl ?_
  refine wpS_nil ?_
  refine QH_seq_k hK15 ?_
  refine wpC_seq_k (fun K hK26 => ?_)
  refine wpC_seq_k (fun K hK27 => ?_)
  refine wpC_region ?_
  refine wpS_quick 1 rfl ?_
  refine wpS_put rfl rfl rfl (yv_neq rfl rfl) ?_
  refine wpS_quick 1 rfl ?_
  refine wpS_case 27 rfl (fun hb => ?_) (fun hb => ?_)
  · replace H := cond_t H hb
    refine wpS_quick 3 rfl ?_
    refine wpS_nil ?_
    refine QH_seq_k hK27 ?_
    refine wpC_cond_t rfl rfl ?_
    refine wpC_seq_k (fun K hK29 => ?_)
    refine wpC_region ?_
    refine wpS_put rfl rfl rfl (yv_load_boxA ag_33 rfl (RW.here _) hS hs1 trivial sg0_3) ?_
    refine wpS_store rfl rfl rfl CellsOf.agg hS ps1 st0_3 (by kernel_rfl) rfl (fun w hS hB => ?_)
    refine wpS_quick 1 rfl ?_
    refine wpS_nil ?_
    refine QH_seq_k hK29 ?_
    refine wpC_ret ?_
    refine QH_then_ret ?_
    refine QH_ret rfl (RV.cell rfl (load_boxA ag_33 hS hs1 sg0_3) (RV.tmp rfl RV.nil)) rfl ?_
    obtain rfl := Option.some.inj H
    have hS := hS.nilRow 40 3
    replace hS := hS.cut 1
    exact ⟨none, 0, rfl, ⟨Nat.le_refl _, Nat.zero_le _⟩, hS⟩
  replace H := cond_f H hb
  refine wpS_quick 1 rfl ?_
  refine wpS_put rfl rfl rfl (yv_eql rfl rfl) ?_
  refine wpS_quick 1 rfl ?_
  refine wpS_nil ?_
  refine QH_seq_k hK27 ?_
  refine wpC_cond rfl (fun hb => ?_) (fun hb => ?_)
  · replace H := cond_t H hb
    refine wpC_seq_k (fun K hK32 => ?_)
    refine wpC_region ?_
    refine wpS_put rfl rfl rfl (yv_load_boxA ag_33 rfl (RW.here _) hS hs1 trivial sg0_3) ?_
    refine wpS_store rfl rfl rfl CellsOf.agg hS ps1 st0_3 (by kernel_rfl) rfl (fun w hS hB => ?_)
    refine wpS_quick 1 rfl ?_
    refine wpS_nil ?_
    refine QH_seq_k hK32 ?_
    refine wpC_ret ?_
    refine QH_then_ret ?_
    refine QH_ret rfl (RV.cell rfl (load_boxA ag_33 hS hs1 sg0_3) (RV.tmp rfl RV.nil)) rfl ?_
    obtain rfl := Option.some.inj H
    have hS := hS.nilRow 40 3
    replace hS := hS.cut 1
    exact ⟨none, 0, rfl, ⟨Nat.le_refl _, Nat.zero_le _⟩, hS⟩
  replace H := cond_f H hb
  refine wpC_skip ?_
  refine QH_seq_k hK26 ?_
  refine wpC_seq_k (fun K hK34 => ?_)
  refine wpC_region ?_
  refine wpS_quick 1 rfl ?_
  refine wpS_put rfl rfl rfl (yv_build (cells := [.int .i64 r20.1, .slice none 0 0, .int .i64 6]) rfl (by kernel_rfl)) ?_
  refine wpS_store rfl rfl rfl CellsOf.agg hS ps1 st0_3 (by kernel_rfl) rfl (fun w hS hB => ?_)
  refine wpS_nil ?_
  refine QH_seq_k hK34 ?_
  refine wpC_seq_k (fun K hK35 => ?_)
  refine wpC_seq_k (fun K hK36 => ?_)
  refine wpC_region ?_
  refine wpS_quick 1 rfl ?_
  have hM37 := hS
  refine wpS_call rfl rfl rfl rfl (by kernel_rfl) rfl (c_one_records x0 A0_ c0_ _ (SlI.of_rd s0_.k (hS.rd0 s0_.rd) (hS.blk0 s0_.blk))) ?_
  rintro e w ⟨b39, rfl, hN38⟩; refine ⟨_, rfl, ?_⟩; have hB := hN38.pure; have hS := hS.join hN38
  refine wpS_nil ?_
  refine QH_seq_k hK36 ?_
  refine wpC_block ?_
  replace hS := hS.nilRow 40 3
  replace hM37 := hM37.nilRow 40 3
  obtain ⟨xs48, hx49, H⟩ := bind_some H
  refine wpC_range (w0 := w0) (X := List En × Option Addr × Nat × Int) rfl (by kernel_rfl) (it_records x0 _ _ _ s0_ hT_ hM37.pure b39 hN38 hx49) ⟨hM37.size, hN38.size⟩ (fun _ => rfl) (by kernel_rfl) (fun k x => .row (.slice x.2.1 x.1.length x.2.2.1) 40 3 x.1.length (encs enE x.1) :: .row (.slice A22 r20.2.1.length c23) 5 1 r20.2.1.length (encs enY r20.2.1) :: .box b2 [.int .i64 r20.1, .slice x.2.1 x.1.length x.2.2.1, .int .i64 x.2.2.2] 33 :: []) (fun k x => (x.1.length ≤ x.2.2.1 ∧ x.2.2.1 ≤ maxLen) ∧ m_one_Scan_r1 r20 (xs48.drop k) x.1 x.2.2.2 = some r) (fun _ _ => []) (fun _ _ => False) (fun _ => False) ([], none, 0, 6) ⟨hS.sub (List.Sublist.cons_cons _ (List.Sublist.cons _ (List.Sublist.cons_cons _ (List.Sublist.cons_cons _ List.Sublist.slnil)))), fun e he k hk => .inl (hM37.rng e he k hk).1⟩ ⟨⟨Nat.le_refl _, Nat.zero_le _⟩, H⟩ ?_ ?_ (fun _ _ _ h _ => h.elim) (fun _ _ h _ => h.elim)
  · rintro lo k e41 ⟨v42, A43, c44, v47⟩ A hke ⟨k45, H⟩ hzB hRB hS
    dsimp only at hRB k45 H ⊢
    rw [drop_of_get hke, m_one_Scan_r1] at H
    dsimp only [List.zip, List.zipWith, List.foldl]
    refine wpC_seq_k (fun K hK50 => ?_)
    refine wpC_regionR (by repeat (first | exact NL.round | exact NL.false | exact NL.body (by intro _ h; simp at h) | apply NL.then | apply NL.inBlock | apply NL.jump)) (by kernel_rfl) ?_
    refine wpS_quick 1 rfl ?_
    refine wpS_nil ?_
    refine QH_seq_k hK50 ?_
    refine wpC_regionR (by repeat (first | exact NL.round | exact NL.false | exact NL.body (by intro _ h; simp at h) | apply NL.then | apply NL.inBlock | apply NL.jump)) (by kernel_rfl) ?_
    refine wpS_alloc rfl rfl zc_40 hS (fun b51 w hS hB => ?_)
    refine wpS_store rfl rfl rfl CellsOf.agg hS ps0 st0_3 (by kernel_rfl) rfl (fun w hS hB => ?_)
    refine wpS_nil ?_
    refine QH_asg hS ?_
    rintro A2 hS hBase hE
    dsimp only [List.cons_append, List.nil_append] at hS
    refine wpC_block ?_
    refine wpC_regionR (by repeat (first | exact NL.round | exact NL.false | exact NL.body (by intro _ h; simp at h) | apply NL.then | apply NL.inBlock | apply NL.jump)) (by kernel_rfl) ?_
    refine wpS_put rfl rfl rfl (yv_fieldAddr fo_33_1 rfl) ?_
    refine wpS_put rfl rfl rfl (yv_load_box sc_22 rfl (RW.here _) hS hs3 trivial sg1_1) ?_
    refine wpS_put rfl rfl rfl (yv_load_boxA ag_40 rfl (RW.here _) hS hs0 trivial sg0_3) ?_
    refine wpS_sliceM (ps := [(0, .tmp 40)]) [.int .i64 e41.2.term, .int .i64 e41.2.kind, .int .i64 e41.2.value] el_22 zc_40 rfl rfl rfl rfl rfl (by kernel_rfl) hS (fun b53 w hS hB => ?_)
    obtain ⟨l55, hf56, H⟩ := bind_some H
    refine wpX_append (ys := ([e41.2] : List En)) he_enE oc_enE em_22 (by decide) rfl rfl rfl rfl hS (fun _ => ps2) (hS.box_rd hs0) hf56 (fun A57 c58 w k59 hS => ?_)
    refine wpS_quick 1 rfl ?_
    refine wpS_put rfl rfl rfl (yv_fieldAddr fo_33_1 rfl) ?_
    refine wpS_store rfl rfl rfl CellsOf.slice hS ps4 st1_1 (by kernel_rfl) rfl (fun w hS hB => ?_)
    refine wpS_put rfl rfl rfl (yv_fieldAddr fo_33_2 rfl) ?_
    refine wpS_store rfl rfl rfl CellsOf.int hS ps4 st2_1 (by kernel_rfl) rfl (fun w hS hB => ?_)
    refine wpS_nil ?_
    refine QH_block_normal ?_
    exact QH_round hBase hE hS (l55, A57, c58, e41.1) (List.Sublist.cons _ (List.Sublist.cons _ (List.Sublist.cons_cons _ (List.Sublist.cons_cons _ (List.Sublist.cons_cons _ List.Sublist.slnil))))) ⟨k59, H⟩
  · rintro ⟨v42, A43, c44, v47⟩ A ⟨k45, H⟩ hS
    dsimp only at hS k45 H ⊢
    rw [List.drop_length, m_one_Scan_r1] at H
    refine QH_block_normal ?_
    refine QH_seq_k hK35 ?_
    refine wpC_seq_k (fun K hK61 => ?_)
    refine wpC_region ?_
    refine wpS_put rfl rfl rfl (yv_load_boxA ag_33 rfl (RW.here _) hS hs3 trivial sg0_3) ?_
    refine wpS_store rfl rfl rfl CellsOf.agg hS ps3 st0_3 (by kernel_rfl) rfl (fun w hS hB => ?_)
    refine wpS_quick 1 rfl ?_
    refine wpS_nil ?_
    refine QH_seq_k hK61 ?_
    refine wpC_ret ?_
    refine QH_shut (.inl rfl) hS ps0 (fun w hS => ?_)
    replace hS := hS.sub (List.Sublist.cons _ (List.Sublist.cons_cons _ (List.Sublist.cons_cons _ (List.Sublist.cons_cons _ List.Sublist.slnil))))
    refine QH_ret rfl (RV.cell rfl (load_boxA ag_33 hS hs2 sg0_3) (RV.tmp rfl RV.nil)) rfl ?_
    obtain rfl := Option.some.inj H
    have hS := hS.front 0 rfl
    replace hS := hS.cut 1
    exact ⟨A43, c44, rfl, k45, hS⟩
theorem c_law07_wakes (w0 : World) (hT_ : SlI w0 enU (some ⟨0, 0, none⟩) 16 tabU) {r : Bool} (H : m_law07_wakes = some r) : Calls Tryd.prog 13 #[] w0 fun e w' => e = .returned (.bool r) ∧ St0 All w0 w' [] := by
  unfold m_law07_wakes at H
  refine gw_enter0 Tryd.func13 rfl Tryd.ntmps13 rfl ?_
  have hS := St0.start All w0
  refine wpC_seq_k (fun K hK1 => ?_)
  refine wpC_region ?_
  refine wpS_quick 1 rfl ?_
  refine wpS_nil ?_
  refine QH_seq_k hK1 ?_
  refine wpC_seq_k (fun K hK2 => ?_)
  refine wpC_region ?_
  obtain ⟨r3, hm4, H⟩ := bind_some H
  refine wpS_call rfl rfl rfl rfl (by kernel_rfl) rfl (c_one_Head 5 _ hm4) ?_
  rintro e w ⟨A5, c6, rfl, k7, hN⟩; refine ⟨_, rfl, ?_⟩; have hB := hN.pure; have hS := hS.join hN; clear hN
  refine wpS_quick 1 rfl ?_
  refine wpS_put rfl rfl rfl (yv_extract rfl rfl) ?_
  refine wpS_put rfl rfl rfl (yv_extract rfl rfl) ?_
  refine wpS_quick 2 rfl ?_
  refine wpS_nil ?_
  refine QH_seq_k hK2 ?_
  refine wpC_seq_k (fun K hK9 => ?_)
  refine wpC_region ?_
  refine wpS_put rfl rfl rfl (yv_build (cells := [.int .i64 1, .int .i64 1, .int .i64 7]) rfl (by kernel_rfl)) ?_
  refine wpS_sliceM (ps := [(0, .tmp 18)]) [.int .i64 1, .int .i64 1, .int .i64 7] el_22 zc_40 rfl rfl rfl rfl rfl (by kernel_rfl) hS (fun b10 w hS hB => ?_)
  obtain ⟨r12, hm13, H⟩ := bind_some H
  refine wpS_call rfl rfl rfl rfl (by kernel_rfl) rfl (c_one_File 5 ([(⟨1, 1, 7⟩ : En)] : List En) (some ⟨b10, 0, none⟩) 1 _ (SlI.of_rd ⟨Nat.le_refl 1, by decide⟩ (hS.box_rd hs0) (hS.box_blk hs0)) (SlI.of_rd hT_.k (hS.rd0 hT_.rd) (hS.blk0 hT_.blk)) hm13) ?_
  rintro e w ⟨A14, c15, rfl, k16, hN⟩; refine ⟨_, rfl, ?_⟩; have hB := hN.pure; have hS := hS.join hN; clear hN
  refine wpS_quick 1 rfl ?_
  refine wpS_put rfl rfl rfl (yv_extract rfl rfl) ?_
  refine wpS_put rfl rfl rfl (yv_extract rfl rfl) ?_
  refine wpS_quick 2 rfl ?_
  refine wpS_nil ?_
  refine QH_seq_k hK9 ?_
  refine wpC_seq_k (fun K hK18 => ?_)
  refine wpC_region ?_
  refine wpS_slice0 el_23 rfl rfl hS (fun b19 w hS hB => ?_)
  refine wpS_quick 1 rfl ?_
  obtain ⟨l21, hf22, H⟩ := bind_some H
  refine wpX_append (ys := r12.1) he_enY oc_enY em_23 (by decide) rfl rfl rfl rfl hS (fun _ => ps0) (hS.row_rd hs1) hf22 (fun A23 c24 w k25 hS => ?_)
  refine wpS_sliceM (ps := [(0, .const (.int .u8 9))]) [.int .u8 9] el_23 zc_5 rfl rfl rfl rfl rfl (by kernel_rfl) hS (fun b26 w hS hB => ?_)
  obtain ⟨l28, hf29, H⟩ := bind_some H
  refine wpX_append (ys := ([9] : List UInt8)) he_enY oc_enY em_23 (by decide) rfl rfl rfl rfl hS (fun _ => ps1) (hS.box_rd hs0) hf29 (fun A30 c31 w k32 hS => ?_)
  obtain ⟨r33, hm34, H⟩ := bind_some H
  refine wpS_call rfl rfl rfl rfl (by kernel_rfl) rfl (c_one_Scan l28 A30 c31 _ (SlI.of_rd k32 (hS.row_rd hs1) (hS.row_blk hs1)) (SlI.of_rd hT_.k (hS.rd0 hT_.rd) (hS.blk0 hT_.blk)) hm34) ?_
  rintro e w ⟨A35, c36, rfl, k37, hN⟩; refine ⟨_, rfl, ?_⟩; have hB := hN.pure; have hS := hS.join hN; clear hN
  refine wpS_quick 1 rfl ?_
  refine wpS_put rfl rfl rfl (yv_extract rfl rfl) ?_
  refine wpS_put rfl rfl rfl (yv_extract rfl rfl) ?_
  refine wpS_alloc rfl rfl zc_33 hS (fun b39 w hS hB => ?_)
  refine wpS_store rfl rfl rfl CellsOf.agg hS ps0 st0_3 (by kernel_rfl) rfl (fun w hS hB => ?_)
  refine wpS_quick 1 rfl ?_
  refine wpS_nil ?_
  refine QH_seq_k hK18 ?_
  refine wpC_seq_k (fun K hK41 => ?_)
  refine wpC_region ?_
  obtain ⟨r42, hm43, H⟩ := bind_some H
  refine wpS_call rfl rfl rfl rfl (by kernel_rfl) rfl (c_one_Head 0 _ hm43) ?_
  rintro e w ⟨A44, c45, rfl, k46, hN⟩; refine ⟨_, rfl, ?_⟩; have hB := hN.pure; have hS := hS.join hN; clear hN
  refine wpS_quick 1 rfl ?_
  refine wpS_put rfl rfl rfl (yv_extract rfl rfl) ?_
  refine wpS_put rfl rfl rfl (yv_extract rfl rfl) ?_
  refine wpS_quick 2 rfl ?_
  refine wpS_nil ?_
  refine QH_seq_k hK41 ?_
  refine wpC_seq_k (fun K hK48 => ?_)
  refine wpC_region ?_
  refine wpS_put rfl rfl rfl (yv_build (cells := [.int .i64 0, .int .i64 0, .int .i64 0]) rfl (by kernel_rfl)) ?_
  refine wpS_sliceM (ps := [(0, .tmp 37)]) [.int .i64 0, .int .i64 0, .int .i64 0] el_22 zc_40 rfl rfl rfl rfl rfl (by kernel_rfl) hS (fun b49 w hS hB => ?_)
  obtain ⟨r51, hm52, H⟩ := bind_some H
  refine wpS_call rfl rfl rfl rfl (by kernel_rfl) rfl (c_one_Put ([(⟨0, 0, 0⟩ : En)] : List En) (some ⟨b49, 0, none⟩) 1 _ (SlI.of_rd ⟨Nat.le_refl 1, by decide⟩ (hS.box_rd hs0) (hS.box_blk hs0)) (SlI.of_rd hT_.k (hS.rd0 hT_.rd) (hS.blk0 hT_.blk)) hm52) ?_
  rintro e w ⟨A53, c54, rfl, k55, hN⟩; refine ⟨_, rfl, ?_⟩; have hB := hN.pure; have hS := hS.join hN; clear hN
  refine wpS_quick 1 rfl ?_
  refine wpS_put rfl rfl rfl (yv_extract rfl rfl) ?_
  refine wpS_put rfl rfl rfl (yv_extract rfl rfl) ?_
  refine wpS_quick 2 rfl ?_
  refine wpS_nil ?_
  refine QH_seq_k hK48 ?_
  refine wpC_seq_k (fun K hK57 => ?_)
  refine wpC_region ?_
  refine wpS_sliceM (ps := [(0, .const (.int .u8 2)), (1, .const (.int .u8 0)), (2, .const (.int .u8 0)), (3, .const (.int .u8 0)), (4, .const (.int .u8 0)), (5, .const (.int .u8 5))]) [.int .u8 2, .int .u8 0, .int .u8 0, .int .u8 0, .int .u8 0, .int .u8 5] el_23 zc_5 rfl rfl rfl rfl rfl (by kernel_rfl) hS (fun b58 w hS hB => ?_)
  obtain ⟨r60, hm61, H⟩ := bind_some H
  refine wpS_call rfl rfl rfl rfl (by kernel_rfl) rfl (c_one_Scan ([2, 0, 0, 0, 0, 5] : List UInt8) (some ⟨b58, 0, none⟩) 6 _ (SlI.of_rd ⟨Nat.le_refl 6, by decide⟩ (hS.box_rd hs0) (hS.box_blk hs0)) (SlI.of_rd hT_.k (hS.rd0 hT_.rd) (hS.blk0 hT_.blk)) hm61) ?_
  rintro e w ⟨A62, c63, rfl, k64, hN⟩; refine ⟨_, rfl, ?_⟩; have hB := hN.pure; have hS := hS.join hN; clear hN
  refine wpS_quick 1 rfl ?_
  refine wpS_put rfl rfl rfl (yv_extract rfl rfl) ?_
  refine wpS_put rfl rfl rfl (yv_extract rfl rfl) ?_
  refine wpS_alloc rfl rfl zc_33 hS (fun b66 w hS hB => ?_)
  refine wpS_store rfl rfl rfl CellsOf.agg hS ps0 st0_3 (by kernel_rfl) rfl (fun w hS hB => ?_)
  refine wpS_quick 1 rfl ?_
  refine wpS_nil ?_
  refine QH_seq_k hK57 ?_
  refine wpC_seq_k (fun K hK68 => ?_)
  refine wpC_region ?_
  refine wpS_quick 1 rfl ?_
  refine wpS_sliceM (ps := [(0, .const (.int .u8 1)), (1, .const (.int .u8 0)), (2, .const (.int .u8 0)), (3, .const (.int .u8 0)), (4, .const (.int .u8 0)), (5, .const (.int .u8 5))]) [.int .u8 1, .int .u8 0, .int .u8 0, .int .u8 0, .int .u8 0, .int .u8 5] el_23 zc_5 rfl rfl rfl rfl rfl (by kernel_rfl) hS (fun b69 w hS hB => ?_)
  obtain ⟨r71, hm72, H⟩ := bind_some H
  refine wpS_call rfl rfl rfl rfl (by kernel_rfl) rfl (c_law07_same r3.1 ([1, 0, 0, 0, 0, 5] : List UInt8) A5 c6 (some ⟨b69, 0, none⟩) 6 _ (SlI.of_rd k7 (hS.row_rd hs13) (hS.row_blk hs13)) (SlI.of_rd ⟨Nat.le_refl 6, by decide⟩ (hS.box_rd hs0) (hS.box_blk hs0)) hm72) ?_
  rintro e w ⟨rfl, hN⟩; refine ⟨_, rfl, ?_⟩; have hB := hN.pure; have hS := hS.join hN; clear hN
  refine wpS_quick 1 rfl ?_
  refine wpS_case 50 rfl (fun hb => ?_) (fun hb => ?_)
  rotate_left
  · replace H := cond_f H hb
    refine wpS_quick 57 rfl ?_
    refine wpS_nil ?_
    refine QH_seq_k hK68 ?_
    refine wpC_ret ?_
    refine QH_ret rfl (RV.tmp rfl RV.nil) rfl ?_
    obtain rfl := Option.some.inj H
    replace hS := hS.cut 0
    exact ⟨rfl, hS⟩
  replace H := cond_t H hb
  refine wpS_quick 1 rfl ?_
  refine wpS_put rfl rfl rfl (yv_eql rfl rfl) ?_
  refine wpS_quick 2 rfl ?_
  refine wpS_case 54 rfl (fun hb => ?_) (fun hb => ?_)
  rotate_left
  · replace H := cond_f H hb
    refine wpS_quick 53 rfl ?_
    refine wpS_nil ?_
    refine QH_seq_k hK68 ?_
    refine wpC_ret ?_
    refine QH_ret rfl (RV.tmp rfl RV.nil) rfl ?_
    obtain rfl := Option.some.inj H
    replace hS := hS.cut 0
    exact ⟨rfl, hS⟩
  replace H := cond_t H hb
  refine wpS_quick 1 rfl ?_
  refine wpS_put rfl rfl rfl (yv_eql rfl rfl) ?_
  refine wpS_quick 2 rfl ?_
  refine wpS_case 58 rfl (fun hb => ?_) (fun hb => ?_)
  rotate_left
  · replace H := cond_f H hb
    refine wpS_quick 49 rfl ?_
    refine wpS_nil ?_
    refine QH_seq_k hK68 ?_
    refine wpC_ret ?_
    refine QH_ret rfl (RV.tmp rfl RV.nil) rfl ?_
    obtain rfl := Option.some.inj H
    replace hS := hS.cut 0
    exact ⟨rfl, hS⟩
  replace H := cond_t H hb
  refine wpS_quick 1 rfl ?_
  refine wpS_put rfl rfl rfl (yv_len el_23 rfl) ?_
  refine wpS_put rfl rfl rfl (yv_eql rfl rfl) ?_
  refine wpS_quick 2 rfl ?_
  refine wpS_case 63 rfl (fun hb => ?_) (fun hb => ?_)
  rotate_left
  · replace H := cond_f H hb
    refine wpS_quick 44 rfl ?_
    refine wpS_nil ?_
    refine QH_seq_k hK68 ?_
    refine wpC_ret ?_
    refine QH_ret rfl (RV.tmp rfl RV.nil) rfl ?_
    obtain rfl := Option.some.inj H
    replace hS := hS.cut 0
    exact ⟨rfl, hS⟩
  replace H := cond_t H hb
  obtain ⟨r77, hm78, H⟩ := bind_some H
  refine wpS_call rfl rfl rfl rfl (by kernel_rfl) rfl (c_one_Size 1 _ hm78) ?_
  rintro e w ⟨rfl, hN⟩; refine ⟨_, rfl, ?_⟩; have hB := hN.pure; have hS := hS.join hN; clear hN
  refine wpS_put rfl rfl rfl (yv_eql rfl rfl) ?_
  refine wpS_quick 2 rfl ?_
  refine wpS_case 67 rfl (fun hb => ?_) (fun hb => ?_)
  rotate_left
  · replace H := cond_f H hb
    refine wpS_quick 40 rfl ?_
    refine wpS_nil ?_
    refine QH_seq_k hK68 ?_
    refine wpC_ret ?_
    refine QH_ret rfl (RV.tmp rfl RV.nil) rfl ?_
    obtain rfl := Option.some.inj H
    replace hS := hS.cut 0
    exact ⟨rfl, hS⟩
  replace H := cond_t H hb
  refine wpS_quick 1 rfl ?_
  refine wpS_put rfl rfl rfl (yv_eql rfl rfl) ?_
  refine wpS_quick 2 rfl ?_
  refine wpS_case 71 rfl (fun hb => ?_) (fun hb => ?_)
  rotate_left
  · replace H := cond_f H hb
    refine wpS_quick 36 rfl ?_
    refine wpS_nil ?_
    refine QH_seq_k hK68 ?_
    refine wpC_ret ?_
    refine QH_ret rfl (RV.tmp rfl RV.nil) rfl ?_
    obtain rfl := Option.some.inj H
    replace hS := hS.cut 0
    exact ⟨rfl, hS⟩
  replace H := cond_t H hb
  refine wpS_put rfl rfl rfl (yv_fieldAddr fo_33_0 rfl) ?_
  refine wpS_put rfl rfl rfl (yv_load_box sc_3 rfl (RW.here _) hS hs7 trivial sg0_1) ?_
  refine wpS_put rfl rfl rfl (yv_eql rfl rfl) ?_
  refine wpS_quick 2 rfl ?_
  refine wpS_case 76 rfl (fun hb => ?_) (fun hb => ?_)
  rotate_left
  · replace H := cond_f H hb
    refine wpS_quick 31 rfl ?_
    refine wpS_nil ?_
    refine QH_seq_k hK68 ?_
    refine wpC_ret ?_
    refine QH_ret rfl (RV.tmp rfl RV.nil) rfl ?_
    obtain rfl := Option.some.inj H
    replace hS := hS.cut 0
    exact ⟨rfl, hS⟩
  replace H := cond_t H hb
  refine wpS_put rfl rfl rfl (yv_fieldAddr fo_33_1 rfl) ?_
  refine wpS_put rfl rfl rfl (yv_load_box sc_22 rfl (RW.here _) hS hs7 trivial sg1_1) ?_
  refine wpS_put rfl rfl rfl (yv_len el_22 rfl) ?_
  refine wpS_put rfl rfl rfl (yv_eql rfl rfl) ?_
  refine wpS_quick 2 rfl ?_
  refine wpS_case 82 rfl (fun hb => ?_) (fun hb => ?_)
  rotate_left
  · replace H := cond_f H hb
    refine wpS_quick 25 rfl ?_
    refine wpS_nil ?_
    refine QH_seq_k hK68 ?_
    refine wpC_ret ?_
    refine QH_ret rfl (RV.tmp rfl RV.nil) rfl ?_
    obtain rfl := Option.some.inj H
    replace hS := hS.cut 0
    exact ⟨rfl, hS⟩
  replace H := cond_t H hb
  refine wpS_put rfl rfl rfl (yv_fieldAddr fo_33_1 rfl) ?_
  refine wpS_put rfl rfl rfl (yv_load_box sc_22 rfl (RW.here _) hS hs7 trivial sg1_1) ?_
  obtain ⟨e83, hi85, H⟩ := bind_some H
  obtain ⟨j84, hi85a, hi85b, hi85c⟩ := idx_some hi85
  refine wpS_put rfl rfl rfl (yx_idx el_22 rfl rfl hi85a hi85c (Rd.el (hS.row_rd hs8) he_enE hi85b)) ?_
  refine wpS_put rfl rfl rfl (yx_fieldAddr fo_40_2 rfl (Rd.el (hS.row_rd hs8) he_enE hi85b)) ?_
  refine wpS_put rfl rfl rfl (yx_ld sc_3 rfl (RW.here _) (Rd.el (hS.row_rd hs8) he_enE hi85b) rfl) ?_
  refine wpS_put rfl rfl rfl (yv_eql rfl rfl) ?_
  refine wpS_quick 2 rfl ?_
  refine wpS_case 90 rfl (fun hb => ?_) (fun hb => ?_)
  rotate_left
  · replace H := cond_f H hb
    refine wpS_quick 17 rfl ?_
    refine wpS_nil ?_
    refine QH_seq_k hK68 ?_
    refine wpC_ret ?_
    refine QH_ret rfl (RV.tmp rfl RV.nil) rfl ?_
    obtain rfl := Option.some.inj H
    replace hS := hS.cut 0
    exact ⟨rfl, hS⟩
  replace H := cond_t H hb
  refine wpS_put rfl rfl rfl (yv_fieldAddr fo_33_2 rfl) ?_
  refine wpS_put rfl rfl rfl (yv_load_box sc_3 rfl (RW.here _) hS hs7 trivial sg2_1) ?_
  refine wpS_put rfl rfl rfl (yv_eql rfl rfl) ?_
  refine wpS_quick 2 rfl ?_
  refine wpS_case 95 rfl (fun hb => ?_) (fun hb => ?_)
  rotate_left
  · replace H := cond_f H hb
    refine wpS_quick 12 rfl ?_
    refine wpS_nil ?_
    refine QH_seq_k hK68 ?_
    refine wpC_ret ?_
    refine QH_ret rfl (RV.tmp rfl RV.nil) rfl ?_
    obtain rfl := Option.some.inj H
    replace hS := hS.cut 0
    exact ⟨rfl, hS⟩
  replace H := cond_t H hb
  refine wpS_quick 1 rfl ?_
  refine wpS_put rfl rfl rfl (yv_eql rfl rfl) ?_
  refine wpS_quick 2 rfl ?_
  refine wpS_case 99 rfl (fun hb => ?_) (fun hb => ?_)
  rotate_left
  · replace H := cond_f H hb
    refine wpS_quick 8 rfl ?_
    refine wpS_nil ?_
    refine QH_seq_k hK68 ?_
    refine wpC_ret ?_
    refine QH_ret rfl (RV.tmp rfl RV.nil) rfl ?_
    obtain rfl := Option.some.inj H
    replace hS := hS.cut 0
    exact ⟨rfl, hS⟩
  replace H := cond_t H hb
  refine wpS_quick 1 rfl ?_
  refine wpS_put rfl rfl rfl (yv_eql rfl rfl) ?_
  refine wpS_quick 2 rfl ?_
  refine wpS_case 103 rfl (fun hb => ?_) (fun hb => ?_)
  rotate_left
  · replace H := cond_f H hb
    refine wpS_quick 4 rfl ?_
    refine wpS_nil ?_
    refine QH_seq_k hK68 ?_
    refine wpC_ret ?_
    refine QH_ret rfl (RV.tmp rfl RV.nil) rfl ?_
    obtain rfl := Option.some.inj H
    replace hS := hS.cut 0
    exact ⟨rfl, hS⟩
  replace H := cond_t H hb
  refine wpS_quick 1 rfl ?_
  refine wpS_put rfl rfl rfl (yv_eql rfl rfl) ?_
  refine wpS_quick 2 rfl ?_
  refine wpS_nil ?_
  refine QH_seq_k hK68 ?_
  refine wpC_ret ?_
  refine QH_ret rfl (RV.tmp rfl RV.nil) rfl ?_
  obtain rfl := Option.some.inj H
  replace hS := hS.cut 0
  exact ⟨rfl, hS⟩
end Go.Proofs.YtofheinbbefbcaaDoor
/- The printed texts of this seat. -/
/- Sums of data, as plain numbers. -/
namespace Go.Proofs.YtofheinbbefbcaaDoor
open Go Go.RowKit
set_option maxRecDepth 100000

theorem next_data (s : St) (hf : FineP s) (hi : s.index < 1073741824) (v : Int) (h0 : 0 ≤ v) (h1 : v ≤ 1073741824) : nextS s ⟨1, 1, v⟩ = ⟨s.index + 1, 1, (31 * s.sum + v + 1) % 1073741824, s.level, s.final⟩ := by
  unfold nextS
  rw [if_pos ⟨by simp [rightB, h0, h1], (fineB_iff s).2 hf, hi⟩]
  rfl
def SumInv (l : List Int) (q : Nat) (value : Int) (s : St) (k : Nat) (a b : St) : Prop :=
  FineP a ∧ FineP b ∧ a.index = s.index + k ∧ b.index = s.index + k ∧ (k ≤ q → a = b) ∧
    (q < k → a.sum < 1073741824 ∧ b.sum < 1073741824 ∧ ∃ x, l[q]? = some x ∧ 0 ≤ x ∧ x ≤ 999 ∧
      ((k = q + 1 ∧ (a.sum - b.sum - (x - value)) % 1073741824 = 0) ∨ (k = q + 2 ∧ (a.sum - b.sum - 31 * (x - value)) % 1073741824 = 0) ∨ (k = q + 3 ∧ (a.sum - b.sum - 961 * (x - value)) % 1073741824 = 0)))
theorem SumInv.start (l : List Int) (q : Nat) (value : Int) (s : St) (h : FineP s) : SumInv l q value s 0 s s := ⟨h, h, by simp, by simp, fun _ => rfl, fun h => by omega⟩
theorem SumInv.step {l : List Int} {q : Nat} {value : Int} {s : St} {k : Nat} {a b : St} (h : SumInv l q value s k a b) (hs : s.index ≤ 1073741624) (hk : k < 3) (v : Int) (hv : l[k]? = some v) (h0 : 0 ≤ v) (h1 : v ≤ 999) (g0 : 0 ≤ value) (g1 : value ≤ 999) :
    SumInv l q value s (k + 1) (nextS a ⟨1, 1, v⟩) (nextS b ⟨1, 1, if k = q then value else v⟩) := by
  obtain ⟨fa, fb, ia, ib, he, hd⟩ := h
  refine ⟨nextS_fine _ _ fa, nextS_fine _ _ fb, ?_⟩
  have va : 0 ≤ (if k = q then value else v) ∧ (if k = q then value else v) ≤ 999 := by split <;> omega
  rw [next_data a fa (by omega) v h0 (by omega), next_data b fb (by omega) _ va.1 (by omega)]
  refine ⟨by show a.index + 1 = _; omega, by show b.index + 1 = _; omega, fun hkq => ?_, fun hkq => ?_⟩
  · rw [if_neg (by omega), he (by omega)]
  · refine ⟨by show _ % _ < _; omega, by show _ % _ < _; omega, ?_⟩
    by_cases e : k = q
    · subst e
      refine ⟨v, hv, h0, h1, .inl ⟨rfl, ?_⟩⟩
      rw [if_pos rfl, he (by omega)]
      show ((31 * b.sum + v + 1) % 1073741824 - (31 * b.sum + value + 1) % 1073741824 - (v - value)) % 1073741824 = 0
      omega
    · obtain ⟨_, _, x, hx, x0, x1, hh⟩ := hd (by omega)
      refine ⟨x, hx, x0, x1, ?_⟩
      rw [if_neg e]
      have goal : ∀ c : Int, (a.sum - b.sum - c) % 1073741824 = 0 → ((31 * a.sum + v + 1) % 1073741824 - (31 * b.sum + v + 1) % 1073741824 - 31 * c) % 1073741824 = 0 := fun c hc => by omega
      rcases hh with ⟨rfl, hh⟩ | ⟨rfl, hh⟩ | ⟨rfl, hh⟩
      · exact .inr (.inl ⟨rfl, goal _ hh⟩)
      · refine .inr (.inr ⟨rfl, ?_⟩)
        have := goal _ hh
        show ((31 * a.sum + v + 1) % 1073741824 - (31 * b.sum + v + 1) % 1073741824 - 961 * (x - value)) % 1073741824 = 0
        omega
      · omega
end Go.Proofs.YtofheinbbefbcaaDoor
/- What comes behind an entry, as the law of layer 6 asks for it. -/
namespace Go.Proofs.YtofheinbbefbcaaDoor
open Go Go.RowKit
set_option maxRecDepth 100000
end Go.Proofs.YtofheinbbefbcaaDoor
/- Tuples' changes, as plain numbers: what the laws of layer 12 ask. -/
namespace Go.Proofs.YtofheinbbefbcaaDoor
open Go Go.RowKit
set_option maxRecDepth 100000

end Go.Proofs.YtofheinbbefbcaaDoor
/- What the references of entries and tuples compute, in plain terms. -/
namespace Go.Proofs.YtofheinbbefbcaaDoor
open Go Go.RowKit
set_option maxRecDepth 100000
theorem p_number (x : Int) : m_ref06_number x = some (numB x) := by
  unfold m_ref06_number numB
  by_cases h : 0 ≤ x <;> simp [h]
theorem p_Right (x : En) : m_ref06_Right x = some (rightB x) := by
  obtain ⟨t, k, v⟩ := x
  simp only [m_ref06_Right, p_number, Option.bind_some, rightB, numB, Bool.cond_not, Bool.cond_decide]
  (repeat' split) <;> (refine congrArg some ?_; rw [Bool.eq_iff_iff]; simp only [decide_eq_true_eq, true_iff, Bool.false_eq_true, false_iff]; omega)
end Go.Proofs.YtofheinbbefbcaaDoor
/- Plain law of the sum of bytes: its steps undo, bursts of four bytes are seen, three rows go with exclusive or. -/
namespace Go.Proofs.YtofheinbbefbcaaDoor

theorem take_put (b : List UInt8) : takeN (putN b) = some b := by
  have hl : (putN b).length = b.length + 4 := by simp [putN, fourN]
  have h1 : (putN b).take ((putN b).length - 4) = b := by rw [hl]; simp [putN]
  have h2 : (putN b).drop ((putN b).length - 4) = fourN (nextN 0 b) := by rw [hl]; simp [putN]
  unfold takeN
  rw [if_neg (by omega), h1, h2, if_pos rfl]

end Go.Proofs.YtofheinbbefbcaaDoor
/- Layer 7: records and segments, in plain terms. -/
namespace Go.Proofs.YtofheinbbefbcaaDoor
open Go Go.RowKit
set_option maxRecDepth 100000
theorem p_wakes07 : m_law07_wakes = some true := by decide +kernel
/-! ### Bytes -/
theorem long_yes (x : Int) (h : 0 ≤ x ∧ x ≤ 1073741824) : m_num_Long [x] = some (long1 x.toNat, 0) ∧ m_ref01_Long [x] = some (long1 x.toNat, 0) := by
  have hb := badN_false.2 h
  have e1 : longR [x] = long1 x.toNat := by
    unfold longR isN longL
    simp [hb]
  have e2 : errN [x] = 0 := by
    unfold errN isN
    simp [hb]
  unfold m_num_Long m_ref01_Long
  rw [e1, e2]
  exact ⟨rfl, rfl⟩
theorem long_no (x : Int) (h : ¬ (0 ≤ x ∧ x ≤ 1073741824)) : m_num_Long [x] = some ([], 2) := by
  have hb : badN x = true := badN_true.2 (by omega)
  have e1 : longR [x] = [] := by
    unfold longR isN
    simp [hb]
  have e2 : errN [x] = 2 := by
    unfold errN isN
    simp [hb]
  unfold m_num_Long
  rw [e1, e2]
  rfl
def headB (n : Int) : List UInt8 := 1 :: long1 n.toNat
theorem headB_len (n : Int) : (headB n).length = 6 := rfl
def payB (e : En) : List UInt8 := long1 e.term.toNat ++ [byI e.kind] ++ long1 e.value.toNat
def recB (e : En) : List UInt8 := putN (payB e)
def recsB (l : List En) : List UInt8 := l.flatMap recB
theorem payB_len (e : En) : (payB e).length = 11 := rfl
theorem recB_len (e : En) : (recB e).length = 15 := by unfold recB; rw [putN_len, payB_len]
theorem recsB_cons (e : En) (l : List En) : recsB (e :: l) = recB e ++ recsB l := rfl
theorem recsB_app (l m : List En) : recsB (l ++ m) = recsB l ++ recsB m := by unfold recsB; rw [List.flatMap_append]
theorem recsB_len (l : List En) : (recsB l).length = 15 * l.length := by
  induction l with
  | nil => rfl
  | cons e l ih => rw [recsB_cons, List.length_append, recB_len, ih, List.length_cons]; omega
theorem right_iff (e : En) : rightB e = true ↔ 0 ≤ e.kind ∧ e.kind ≤ 4 ∧ 0 < e.term ∧ e.term ≤ 1073741824 ∧ 0 ≤ e.value ∧ e.value ≤ 1073741824 ∧ (e.value = 0 ∨ e.kind = 1) := decide_eq_true_iff
/-! ### What is put -/
def headR (x : Int) : List UInt8 × Int := if 1 ≤ x ∧ x ≤ 1073741824 then (headB x, 0) else ([], 2)
theorem p_oneHead (x : Int) : m_one_Head x = some (headR x) := by
  unfold m_one_Head headR
  by_cases h : 0 ≤ x ∧ x ≤ 1073741824
  · rw [(long_yes x h).1, Option.bind_some]
    by_cases h0 : x = 0
    · rw [decide_eq_false (by simp), cond_false, decide_eq_true h0, cond_true, if_neg (by omega)]
    · rw [decide_eq_false (by simp), cond_false, decide_eq_false h0, cond_false, if_pos (by omega)]
      rfl
  · rw [long_no x h, Option.bind_some, decide_eq_true (by decide), cond_true, if_neg (by omega)]
theorem p_refHead (x : Int) : m_ref07_Head x = some (headR x) := by
  unfold m_ref07_Head headR
  by_cases h1 : x < 1
  · rw [decide_eq_true h1, cond_true, if_neg (by omega)]
  by_cases h2 : 1073741824 < x
  · rw [decide_eq_false h1, cond_false, decide_eq_true h2, cond_true, if_neg (by omega)]
  rw [decide_eq_false h1, cond_false, decide_eq_false h2, cond_false, (long_yes x (by omega)).2, Option.bind_some, if_pos (by omega)]
  rfl
def putR (l : List En) : List UInt8 × Int := if l.all rightB = true then (recsB l, 0) else ([], 2)
theorem p_record (e : En) (h : rightB e = true) : m_ref07_record e = some (recB e) := by
  have h' := (right_iff e).1 h
  unfold m_ref07_record
  rw [(long_yes e.term (by omega)).2, Option.bind_some, (long_yes e.value (by omega)).2, Option.bind_some]
  rfl
theorem onePut_l1 (l : List En) (hl : l.length ≤ 100) : ∀ (q k n : Nat) (acc : List UInt8) (v : Int), q + k = l.length → q < n → acc.length + 15 * q ≤ 100000 →
    m_one_Put_l1 l n acc v k = some (if (l.drop k).all rightB = true then (acc ++ recsB (l.drop k), 0) else ([], 2)) := by
  intro q
  induction q with
  | zero =>
    intro k n acc v hk hn ha
    obtain ⟨n, rfl⟩ : ∃ n', n = n' + 1 := ⟨n - 1, by omega⟩
    rw [m_one_Put_l1, decide_eq_false (show ¬ (k : Int) < (l.length : Int) by omega), cond_false, List.drop_eq_nil_of_le (by omega)]
    simp [recsB]
  | succ q ih =>
    intro k n acc v hk hn ha
    obtain ⟨n, rfl⟩ : ∃ n', n = n' + 1 := ⟨n - 1, by omega⟩
    obtain ⟨e, he, hd⟩ := drop_step (show k < l.length by omega)
    have w1 : IntKind.wrap .i64 ((k : Int) + 1) = ((k + 1 : Nat) : Int) := by rw [w64i (by omega)]; omega
    have hR : m_entry_Right e = some (rightB e) := rfl
    rw [m_one_Put_l1, decide_eq_true (show (k : Int) < (l.length : Int) by omega), cond_true, idx_nat, he, Option.bind_some, hR, Option.bind_some, hd, w1]
    cases hr : rightB e with
    | false => rw [Bool.not_false, cond_true, List.all_cons, hr, Bool.false_and, if_neg (by decide)]
    | true =>
      have h' := (right_iff e).1 hr
      have hP : m_crc_Put (payB e) = some (recB e) := by unfold m_crc_Put; rw [decide_eq_true (by rw [payB_len]; decide)]; rfl
      rw [Bool.not_true, cond_false, (long_yes e.term (by omega)).1, Option.bind_some, (long_yes e.value (by omega)).1, Option.bind_some]
      dsimp only
      rw [fewI_ok _ (by simp [long1_len]), Option.bind_some, fewI_ok _ (by simp [long1_len]), Option.bind_some]
      show (m_crc_Put (payB e)).bind _ = _
      rw [hP, Option.bind_some, fewI_ok _ (by rw [List.length_append, recB_len]; omega), Option.bind_some, ih (k + 1) n (acc ++ recB e) v (by omega) (by omega) (by rw [List.length_append, recB_len]; omega), List.all_cons, hr, Bool.true_and, recsB_cons, List.append_assoc]
theorem p_onePut (l : List En) (hl : l.length ≤ 100) : m_one_Put l = some (putR l) := by
  have := onePut_l1 l hl l.length 0 fuelN [] 0 (by omega) (by unfold fuelN; omega) (by simp; omega)
  exact this
theorem refPut_l1 (l : List En) (hl : l.length ≤ 100) : ∀ (q k n : Nat) (acc : List UInt8) (v : Int), q + k = l.length → q < n → acc.length + 15 * q ≤ 100000 →
    m_ref07_Put_l1 l n v acc k = some (if (l.drop k).all rightB = true then (acc ++ recsB (l.drop k), 0) else ([], 2)) := by
  intro q
  induction q with
  | zero =>
    intro k n acc v hk hn ha
    obtain ⟨n, rfl⟩ : ∃ n', n = n' + 1 := ⟨n - 1, by omega⟩
    rw [m_ref07_Put_l1, decide_eq_false (show ¬ (k : Int) < (l.length : Int) by omega), cond_false, List.drop_eq_nil_of_le (by omega)]
    simp [recsB]
  | succ q ih =>
    intro k n acc v hk hn ha
    obtain ⟨n, rfl⟩ : ∃ n', n = n' + 1 := ⟨n - 1, by omega⟩
    obtain ⟨e, he, hd⟩ := drop_step (show k < l.length by omega)
    have w1 : IntKind.wrap .i64 ((k : Int) + 1) = ((k + 1 : Nat) : Int) := by rw [w64i (by omega)]; omega
    rw [m_ref07_Put_l1, decide_eq_true (show (k : Int) < (l.length : Int) by omega), cond_true, idx_nat, he, Option.bind_some, p_Right, Option.bind_some, hd, w1]
    cases hr : rightB e with
    | false => rw [Bool.not_false, cond_true, List.all_cons, hr, Bool.false_and, if_neg (by decide)]
    | true =>
      rw [Bool.not_true, cond_false, Option.bind_some, p_record e hr, Option.bind_some, fewI_ok _ (by rw [List.length_append, recB_len]; omega), Option.bind_some, ih (k + 1) n (acc ++ recB e) v (by omega) (by omega) (by rw [List.length_append, recB_len]; omega), List.all_cons, hr, Bool.true_and, recsB_cons, List.append_assoc]
theorem p_refPut (l : List En) (hl : l.length ≤ 100) : m_ref07_Put l = some (putR l) := by
  have := refPut_l1 l hl l.length 0 fuelN [] 0 (by omega) (by unfold fuelN; omega) (by simp; omega)
  exact this
def fileR (x : Int) (l : List En) : List UInt8 × Int := if (1 ≤ x ∧ x ≤ 1073741824) ∧ l.all rightB = true then (headB x ++ recsB l, 0) else ([], 2)
theorem p_oneFile (x : Int) (l : List En) (hl : l.length ≤ 100) : m_one_File x l = some (fileR x l) := by
  unfold m_one_File fileR
  rw [p_oneHead, Option.bind_some, p_onePut l hl]
  unfold headR putR
  by_cases h1 : 1 ≤ x ∧ x ≤ 1073741824
  · rw [if_pos h1, decide_eq_false (by simp), cond_false, Option.bind_some]
    by_cases h2 : l.all rightB = true
    · rw [if_pos h2, decide_eq_false (by simp), cond_false, if_pos ⟨h1, h2⟩, fewI_ok _ (by dsimp only; rw [List.length_append, headB_len, recsB_len]; omega), Option.bind_some]
    · rw [if_neg h2, decide_eq_true (by decide), cond_true, if_neg (fun h => h2 h.2)]
  · rw [if_neg h1, decide_eq_true (by decide), cond_true, if_neg (fun h => h1 h.1)]
theorem p_refFile (x : Int) (l : List En) (hl : l.length ≤ 100) : m_ref07_File x l = some (fileR x l) := by
  unfold m_ref07_File fileR
  rw [p_refHead, Option.bind_some, p_refPut l hl]
  unfold headR putR
  by_cases h1 : 1 ≤ x ∧ x ≤ 1073741824
  · rw [if_pos h1, decide_eq_false (by simp), cond_false, Option.bind_some]
    by_cases h2 : l.all rightB = true
    · rw [if_pos h2, decide_eq_false (by simp), cond_false, if_pos ⟨h1, h2⟩, fewI_ok _ (by dsimp only; rw [List.length_append, headB_len, recsB_len]; omega), Option.bind_some]
    · rw [if_neg h2, decide_eq_true (by decide), cond_true, if_neg (fun h => h2 h.2)]
  · rw [if_neg h1, decide_eq_true (by decide), cond_true, if_neg (fun h => h1 h.1)]
/-! ### What is taken -/
theorem take_inv (b p : List UInt8) (h : takeN b = some p) : b = putN p ∧ b.length = p.length + 4 := by
  unfold takeN at h
  split at h
  · cases h
  · rename_i h4
    split at h
    · rename_i h5
      have h := Option.some.inj h
      have e : b = putN p := by
        unfold putN
        rw [← h, h5, List.take_append_drop]
      exact ⟨e, by rw [e, putN_len]⟩
    · cases h
/-- A record's entry. -/
def takeE (b : List UInt8) : Option En := match takeN b with
  | none => none
  | some p => if (tlN p).2.2 = 0 then (if (tlN ((tlN p).2.1.drop 1)).2.2 = 0 then
      (if rightB ⟨(tlN p).1, (((tlN p).2.1[0]?.getD 0).toNat : Int), (tlN ((tlN p).2.1.drop 1)).1⟩ = true then some ⟨(tlN p).1, (((tlN p).2.1[0]?.getD 0).toNat : Int), (tlN ((tlN p).2.1.drop 1)).1⟩ else none) else none) else none
theorem tl_eta (l : List UInt8) (h : (tlN l).2.2 = 0) : tlN l = ((tlN l).1, (tlN l).2.1, 0) := by rw [← h]
theorem tl_rest (l : List UInt8) (h : (tlN l).2.2 = 0) : (tlN l).2.1.length + 5 = l.length := by
  obtain ⟨X, _, _, hl⟩ := tl_inv l _ _ (tl_eta l h)
  have := congrArg List.length hl
  rw [List.length_append, long1_len] at this
  omega
theorem takeE_inv (b : List UInt8) (e : En) (hb : b.length = 15) (h : takeE b = some e) : rightB e = true ∧ b = recB e := by
  unfold takeE at h
  cases hp : takeN b with
  | none => rw [hp] at h; cases h
  | some p =>
    rw [hp] at h
    dsimp only at h
    obtain ⟨hbp, hlen⟩ := take_inv b p hp
    by_cases h1 : (tlN p).2.2 = 0
    case neg => rw [if_neg h1] at h; cases h
    rw [if_pos h1] at h
    by_cases h2 : (tlN ((tlN p).2.1.drop 1)).2.2 = 0
    case neg => rw [if_neg h2] at h; cases h
    rw [if_pos h2] at h
    split at h
    case isFalse => cases h
    rename_i hr
    obtain rfl := Option.some.inj h
    refine ⟨hr, ?_⟩
    obtain ⟨X, hX, hX2, e1⟩ := tl_inv p _ _ (tl_eta p h1)
    obtain ⟨Y, hY, hY2, e2⟩ := tl_inv _ _ _ (tl_eta _ h2)
    have l1 := tl_rest p h1
    have l2 := tl_rest _ h2
    rw [List.length_drop] at l2
    have l3 : (tlN ((tlN p).2.1.drop 1)).2.1 = [] := List.eq_nil_of_length_eq_zero (by omega)
    rw [l3, List.append_nil] at e2
    obtain ⟨c, m, hcm⟩ : ∃ c m, (tlN p).2.1 = c :: m := by
      cases hm : (tlN p).2.1 with
      | nil => rw [hm] at l1; simp at l1; omega
      | cons c m => exact ⟨c, m, rfl⟩
    rw [hcm] at e2
    have e3 : m = long1 Y := e2
    have hpay : p = payB ⟨(tlN p).1, (((tlN p).2.1[0]?.getD 0).toNat : Int), (tlN ((tlN p).2.1.drop 1)).1⟩ := by
      unfold payB
      rw [hX, hY, hcm]
      dsimp only
      rw [Int.toNat_natCast, Int.toNat_natCast]
      have hc : byI ((([c] ++ m : List UInt8)[0]?.getD 0).toNat : Int) = c := by
        have hlt := c.toNat_lt
        show byI (c.toNat : Int) = c
        unfold byI
        rw [Int.emod_eq_of_lt (by omega) (by omega), Int.toNat_natCast]
        exact ofNat_toNat' c
      show p = long1 X ++ [byI ((([c] ++ m : List UInt8)[0]?.getD 0).toNat : Int)] ++ long1 Y
      rw [hc, ← e3]
      have := e1
      rw [hcm] at this
      rw [this]
      simp
    unfold recB
    rw [← hpay]
    exact hbp
theorem takeE_rec (e : En) (h : rightB e = true) : takeE (recB e) = some e := by
  have h' := (right_iff e).1 h
  have t1 : takeN (recB e) = some (payB e) := take_put _
  have t2 : tlN (payB e) = (e.term, byI e.kind :: long1 e.value.toNat, 0) := by
    unfold payB
    rw [List.append_assoc, tl_long _ (by omega)]
    rw [Int.toNat_of_nonneg (by omega)]
    rfl
  have t3 : tlN (long1 e.value.toNat) = (e.value, [], 0) := by
    have := tl_long e.value.toNat (by omega) []
    rw [List.append_nil] at this
    rw [this, Int.toNat_of_nonneg (by omega)]
  have t4 : ((byI e.kind).toNat : Int) = e.kind := by
    rw [← byI_wrap]
    have : IntKind.wrap .u8 e.kind = e.kind % 256 := rfl
    rw [this]
    exact Int.emod_eq_of_lt (by omega) (by omega)
  unfold takeE
  simp only [t1, t2, List.drop_succ_cons, List.drop_zero, t3, List.getElem?_cons_zero, Option.getD_some, t4, if_true, h]
theorem p_oneTake (b : List UInt8) (hb : b.length = 15) : m_one_take b = some ((takeE b).getD ⟨0, 0, 0⟩, (takeE b).isSome) := by
  have hT : m_crc_Take b = some ((takeN b).getD [], (takeN b).isSome) := by unfold m_crc_Take; rw [decide_eq_true (by omega)]; rfl
  unfold m_one_take takeE
  rw [hT, Option.bind_some]
  cases hp : takeN b with
  | none => rfl
  | some p =>
    obtain ⟨hbp, hlen⟩ := take_inv b p hp
    have hL : m_num_TakeLong p = some (tlN p) := by unfold m_num_TakeLong; rw [decide_eq_true (by omega)]; rfl
    dsimp only [Option.isSome_some, Option.getD_some]
    rw [Bool.not_true, cond_false, hL, Option.bind_some]
    by_cases h1 : (tlN p).2.2 = 0
    case neg => rw [decide_eq_true (show (tlN p).2.2 ≠ 0 from h1), cond_true, if_neg h1]; rfl
    have l1 := tl_rest p h1
    obtain ⟨c, m, hcm⟩ : ∃ c m, (tlN p).2.1 = c :: m := by
      cases hm : (tlN p).2.1 with
      | nil => rw [hm] at l1; simp at l1; omega
      | cons c m => exact ⟨c, m, rfl⟩
    have hi : idx (tlN p).2.1 0 = some c := by rw [hcm]; rfl
    have hd : dropI (tlN p).2.1 1 = some ((tlN p).2.1.drop 1) := dropI_nat _ 1 (by omega)
    have hL2 : m_num_TakeLong ((tlN p).2.1.drop 1) = some (tlN ((tlN p).2.1.drop 1)) := by unfold m_num_TakeLong; rw [decide_eq_true (by rw [List.length_drop]; omega)]; rfl
    have hc : IntKind.wrap .i64 (c.toNat : Int) = (c.toNat : Int) := w64i (by have := c.toNat_lt; omega)
    have hg : (tlN p).2.1[0]?.getD 0 = c := by rw [hcm]; rfl
    rw [decide_eq_false (show ¬ (tlN p).2.2 ≠ 0 from fun h => h h1), cond_false, if_pos h1, hi, Option.bind_some, hd, Option.bind_some, hL2, Option.bind_some, hc, hg]
    by_cases h2 : (tlN ((tlN p).2.1.drop 1)).2.2 = 0
    case neg => rw [decide_eq_true (show (tlN ((tlN p).2.1.drop 1)).2.2 ≠ 0 from h2), cond_true, if_neg h2]; rfl
    rw [decide_eq_false (show ¬ (tlN ((tlN p).2.1.drop 1)).2.2 ≠ 0 from fun h => h h2), cond_false, if_pos h2]
    show (some (rightB _)).bind _ = _
    rw [Option.bind_some]
    cases rightB ⟨(tlN p).1, (c.toNat : Int), (tlN ((tlN p).2.1.drop 1)).1⟩ with
    | true => rfl
    | false => rfl
theorem p_refTaken (b : List UInt8) (hb : b.length = 15) : ∃ x, m_ref07_taken b = some (x, (takeE b).isSome) ∧ ∀ e, takeE b = some e → x = e := by
  have hT : m_ref03_Take b = some ((takeN b).getD [], (takeN b).isSome) := by unfold m_ref03_Take; rw [decide_eq_true (by omega)]; rfl
  unfold m_ref07_taken takeE
  rw [hT, Option.bind_some]
  cases hp : takeN b with
  | none => exact ⟨_, rfl, fun e h => by cases h⟩
  | some p =>
    obtain ⟨hbp, hlen⟩ := take_inv b p hp
    have hL : m_ref01_TakeLong p = some (tlN p) := by unfold m_ref01_TakeLong; rw [decide_eq_true (by omega)]; rfl
    dsimp only [Option.isSome_some, Option.getD_some]
    rw [Bool.not_true, cond_false, decide_eq_false (show ¬ (p.length : Int) ≠ 11 by omega), cond_false, hL, Option.bind_some]
    by_cases h1 : (tlN p).2.2 = 0
    case neg =>
      rw [decide_eq_true (show (tlN p).2.2 ≠ 0 from h1), cond_true, if_neg h1]
      exact ⟨_, rfl, fun e h => by cases h⟩
    have l1 := tl_rest p h1
    obtain ⟨c, m, hcm⟩ : ∃ c m, (tlN p).2.1 = c :: m := by
      cases hm : (tlN p).2.1 with
      | nil => rw [hm] at l1; simp at l1; omega
      | cons c m => exact ⟨c, m, rfl⟩
    have hi : idx (tlN p).2.1 0 = some c := by rw [hcm]; rfl
    have hd : dropI (tlN p).2.1 1 = some ((tlN p).2.1.drop 1) := dropI_nat _ 1 (by omega)
    have hL2 : m_ref01_TakeLong ((tlN p).2.1.drop 1) = some (tlN ((tlN p).2.1.drop 1)) := by unfold m_ref01_TakeLong; rw [decide_eq_true (by rw [List.length_drop]; omega)]; rfl
    have hc : IntKind.wrap .i64 (c.toNat : Int) = (c.toNat : Int) := w64i (by have := c.toNat_lt; omega)
    have hg : (tlN p).2.1[0]?.getD 0 = c := by rw [hcm]; rfl
    rw [decide_eq_false (show ¬ (tlN p).2.2 ≠ 0 from fun h => h h1), cond_false, if_pos h1, decide_eq_false (show ¬ ((tlN p).2.1.length : Int) ≠ 6 by omega), cond_false, hd, Option.bind_some, hL2, Option.bind_some, hi, Option.bind_some, hc, hg]
    by_cases h2 : (tlN ((tlN p).2.1.drop 1)).2.2 = 0
    case neg =>
      rw [decide_eq_false h2, cond_false, if_neg h2]
      exact ⟨_, rfl, fun e h => by cases h⟩
    rw [decide_eq_true h2, cond_true, if_pos h2, p_Right, Option.bind_some]
    cases hr : rightB ⟨(tlN p).1, (c.toNat : Int), (tlN ((tlN p).2.1.drop 1)).1⟩ with
    | true => exact ⟨_, rfl, fun e h => Option.some.inj h⟩
    | false => exact ⟨_, rfl, fun e h => by cases h⟩
end Go.Proofs.YtofheinbbefbcaaDoor
/- Layer 7's statements, in plain terms. -/
namespace Go.Proofs.YtofheinbbefbcaaDoor
open Go Go.RowKit
set_option maxRecDepth 100000
/-! ### What is scanned -/
def scanL (b : List UInt8) : Nat → Nat → List En
  | 0, _ => []
  | q + 1, k => if k + 15 ≤ b.length then (match takeE ((b.take (k + 15)).drop k) with
    | some e => e :: scanL b q (k + 15)
    | none => []) else []
def pairL : List En → Nat → List (Int × En)
  | [], _ => []
  | e :: l, k => (((k + 15 : Nat) : Int), e) :: pairL l (k + 15)
theorem cut_len15 (b : List UInt8) (k : Nat) (h : k + 15 ≤ b.length) : ((b.take (k + 15)).drop k).length = 15 := by rw [List.length_drop, List.length_take]; omega
theorem recs_scan (b : List UInt8) : ∀ q k, recsI b q k = some (pairL (scanL b q k) k) := by
  intro q
  induction q with
  | zero => intro k; rfl
  | succ q ih =>
    intro k
    rw [recsI, scanL]
    by_cases h : k + 15 ≤ b.length
    · rw [if_pos h, if_pos h, p_oneTake _ (cut_len15 b k h), Option.bind_some]
      cases ht : takeE ((b.take (k + 15)).drop k) with
      | none => rfl
      | some e =>
        dsimp only [Option.isSome_some, Option.getD_some]
        rw [if_pos rfl, ih (k + 15), Option.bind_some]
        rfl
    · rw [if_neg h, if_neg h]; rfl
theorem scan_len (b : List UInt8) : ∀ q k, k ≤ b.length → k + 15 * (scanL b q k).length ≤ b.length := by
  intro q
  induction q with
  | zero => intro k h; simpa [scanL] using h
  | succ q ih =>
    intro k h
    rw [scanL]
    split
    · rename_i h1
      split
      · rename_i e _
        have := ih (k + 15) h1
        rw [List.length_cons]; omega
      · simpa using h
    · simpa using h
def headO (b : List UInt8) : Option Int := if 6 ≤ b.length ∧ b[0]? = some 1 ∧ (tlN ((b.take 6).drop 1)).2.2 = 0 ∧ (tlN ((b.take 6).drop 1)).1 ≠ 0 then some (tlN ((b.take 6).drop 1)).1 else none
def scanR (b : List UInt8) : Sc × Int := match headO b with
  | some n => (⟨n, scanL b (b.length + 1) 6, ((6 + 15 * (scanL b (b.length + 1) 6).length : Nat) : Int)⟩, 0)
  | none => (⟨0, [], 0⟩, 11)
theorem scan_r1 (r : Int × List UInt8 × Int) : ∀ (l : List En) (k : Nat) (log : List En), log.length + l.length ≤ 100000 → m_one_Scan_r1 r (pairL l k) log k = some (⟨r.1, log ++ l, ((k + 15 * l.length : Nat) : Int)⟩, 0) := by
  intro l
  induction l with
  | nil => intro k log _; rw [pairL, m_one_Scan_r1]; simp
  | cons e l ih =>
    intro k log h
    rw [List.length_cons] at h
    rw [pairL, m_one_Scan_r1, fewI_ok _ (by rw [List.length_append]; simp only [List.length_cons, List.length_nil]; omega), Option.bind_some]
    have := ih (k + 15) (log ++ [e]) (by rw [List.length_append]; simp only [List.length_cons, List.length_nil]; omega)
    rw [this, List.append_assoc, List.length_cons]
    congr 4
    omega
theorem tlN_num (l : List UInt8) : 0 ≤ (tlN l).1 ∧ (tlN l).1 ≤ 1073741824 := by
  rcases tlN_err l with h | ⟨h, _⟩ | ⟨h, _⟩
  · obtain ⟨X, hX, hX2, _⟩ := tl_inv l _ _ (tl_eta l h)
    omega
  · rw [h]; exact ⟨Int.le_refl 0, by decide⟩
  · rw [h]; exact ⟨Int.le_refl 0, by decide⟩
theorem one_byte (c : UInt8) : (c.toNat : Int) = 1 ↔ c = 1 := by
  constructor
  · intro h
    have : c.toNat = 1 := by omega
    rw [← ofNat_toNat' c, this]; rfl
  · rintro rfl; rfl
theorem p_oneScan (b : List UInt8) (hb : b.length ≤ 1000) : m_one_Scan b = some (scanR b) := by
  unfold m_one_Scan scanR headO
  by_cases h6 : (b.length : Int) < 6
  · rw [decide_eq_true h6, cond_true, if_neg (fun h => by have := h.1; omega)]
  rw [decide_eq_false h6, cond_false]
  obtain ⟨c, hc, _⟩ := drop_step (show 0 < b.length by omega)
  have hi : idx b 0 = some c := by have := idx_nat b 0; rw [show ((0 : Nat) : Int) = 0 from rfl] at this; rw [this]; exact hc
  rw [hi, Option.bind_some, hc]
  by_cases h1 : c = 1
  case neg => rw [decide_eq_true (show (c.toNat : Int) ≠ 1 from fun h => h1 ((one_byte c).1 h)), cond_true, if_neg (fun h => h1 (Option.some.inj h.2.1))]
  have ht : takeI b 6 = some (b.take 6) := takeI_nat b 6 (by omega)
  have hd : dropI (b.take 6) 1 = some ((b.take 6).drop 1) := dropI_nat _ 1 (by rw [List.length_take]; omega)
  have hL : m_num_TakeLong ((b.take 6).drop 1) = some (tlN ((b.take 6).drop 1)) := by unfold m_num_TakeLong; rw [decide_eq_true (by rw [List.length_drop, List.length_take]; omega)]; rfl
  rw [decide_eq_false (show ¬ (c.toNat : Int) ≠ 1 from fun h => h ((one_byte c).2 h1)), cond_false, ht, Option.bind_some, hd, Option.bind_some, hL, Option.bind_some]
  by_cases h2 : (tlN ((b.take 6).drop 1)).2.2 = 0
  case neg => rw [decide_eq_true (show (tlN ((b.take 6).drop 1)).2.2 ≠ 0 from h2), cond_true, if_neg (fun h => h2 h.2.2.1)]
  rw [decide_eq_false (fun h => h h2), cond_false]
  by_cases h3 : (tlN ((b.take 6).drop 1)).1 = 0
  · rw [decide_eq_true h3, cond_true, if_neg (fun h => h.2.2.2 h3)]
  rw [decide_eq_false h3, cond_false, if_pos ⟨by omega, by rw [h1], h2, h3⟩]
  have hlen := scan_len b (b.length + 1) 6 (by omega)
  unfold m_it_records
  rw [if_pos (by omega), recs_scan, Option.bind_some]
  have := scan_r1 (tlN ((b.take 6).drop 1)) (scanL b (b.length + 1) 6) 6 [] (by rw [List.length_nil]; omega)
  exact this
theorem refScan_l1 (b : List UInt8) (r : Int × List UInt8 × Int) (hb : b.length ≤ 1000) : ∀ (q k n : Nat) (log : List En) (v : Int), b.length < k + 15 * q → k ≤ 1000 → q < n → log.length + q ≤ 100000 →
    m_ref07_Scan_l1 b r n v log k = some (⟨r.1, log ++ scanL b q k, ((k + 15 * (scanL b q k).length : Nat) : Int)⟩, 0) := by
  intro q
  induction q with
  | zero =>
    intro k n log v hq hk hn hl
    obtain ⟨n, rfl⟩ : ∃ n', n = n' + 1 := ⟨n - 1, by omega⟩
    have w1 : IntKind.wrap .i64 ((k : Int) + 15) = (k : Int) + 15 := w64i (by omega)
    rw [m_ref07_Scan_l1, w1, decide_eq_false (show ¬ (k : Int) + 15 ≤ (b.length : Int) by omega), cond_false, scanL]
    simp
  | succ q ih =>
    intro k n log v hq hk hn hl
    obtain ⟨n, rfl⟩ : ∃ n', n = n' + 1 := ⟨n - 1, by omega⟩
    have w1 : IntKind.wrap .i64 ((k : Int) + 15) = ((k + 15 : Nat) : Int) := by rw [w64i (by omega)]; omega
    rw [m_ref07_Scan_l1, w1, scanL]
    by_cases h : k + 15 ≤ b.length
    · rw [decide_eq_true (show ((k + 15 : Nat) : Int) ≤ (b.length : Int) by omega), cond_true, takeI_nat b (k + 15) h, Option.bind_some, dropI_nat _ k (by rw [List.length_take]; omega), Option.bind_some, if_pos h]
      obtain ⟨x, hx, hxe⟩ := p_refTaken _ (cut_len15 b k h)
      rw [hx, Option.bind_some]
      cases ht : takeE ((b.take (k + 15)).drop k) with
      | none => rw [Option.isSome_none, Bool.not_false, cond_true]; simp
      | some e =>
        rw [hxe e ht, Option.isSome_some, Bool.not_true, cond_false, fewI_ok _ (by rw [List.length_append]; simp only [List.length_cons, List.length_nil]; omega), Option.bind_some, ih (k + 15) n (log ++ [e]) v (by omega) (by omega) (by omega) (by rw [List.length_append]; simp only [List.length_cons, List.length_nil]; omega), List.append_assoc]
        dsimp only
        rw [List.length_cons, show k + 15 + 15 * (scanL b q (k + 15)).length = k + 15 * ((scanL b q (k + 15)).length + 1) by omega]
        rfl
    · rw [decide_eq_false (show ¬ ((k + 15 : Nat) : Int) ≤ (b.length : Int) by omega), cond_false, if_neg h]
      simp
theorem p_refScan (b : List UInt8) (hb : b.length ≤ 900) : m_ref07_Scan b = some (scanR b) := by
  unfold m_ref07_Scan scanR headO
  by_cases h6 : (b.length : Int) < 6
  · rw [decide_eq_true h6, cond_true, if_neg (fun h => by have := h.1; omega)]
  rw [decide_eq_false h6, cond_false]
  obtain ⟨c, hc, _⟩ := drop_step (show 0 < b.length by omega)
  have hi : idx b 0 = some c := by have := idx_nat b 0; rw [show ((0 : Nat) : Int) = 0 from rfl] at this; rw [this]; exact hc
  rw [hi, Option.bind_some, hc]
  by_cases h1 : c = 1
  case neg => rw [decide_eq_true (show (c.toNat : Int) ≠ 1 from fun h => h1 ((one_byte c).1 h)), cond_true, if_neg (fun h => h1 (Option.some.inj h.2.1))]
  have ht : takeI b 6 = some (b.take 6) := takeI_nat b 6 (by omega)
  have hd : dropI (b.take 6) 1 = some ((b.take 6).drop 1) := dropI_nat _ 1 (by rw [List.length_take]; omega)
  have hL : m_ref01_TakeLong ((b.take 6).drop 1) = some (tlN ((b.take 6).drop 1)) := by unfold m_ref01_TakeLong; rw [decide_eq_true (by rw [List.length_drop, List.length_take]; omega)]; rfl
  have hn := tlN_num ((b.take 6).drop 1)
  rw [decide_eq_false (show ¬ (c.toNat : Int) ≠ 1 from fun h => h ((one_byte c).2 h1)), cond_false, ht, Option.bind_some, hd, Option.bind_some, hL, Option.bind_some]
  by_cases h2 : (tlN ((b.take 6).drop 1)).2.2 = 0
  case neg => rw [decide_eq_true (show (tlN ((b.take 6).drop 1)).2.2 ≠ 0 from h2), cond_true, if_neg (fun h => h2 h.2.2.1)]
  rw [decide_eq_false (fun h => h h2), cond_false]
  by_cases h3 : (tlN ((b.take 6).drop 1)).1 = 0
  · rw [decide_eq_true (by omega), cond_true, if_neg (fun h => h.2.2.2 h3)]
  rw [decide_eq_false (by omega), cond_false, if_pos ⟨by omega, by rw [h1], h2, h3⟩]
  have := refScan_l1 b (tlN ((b.take 6).drop 1)) (by omega) (b.length + 1) 6 fuelN [] 0 (by omega) (by omega) (by unfold fuelN; omega) (by rw [List.length_nil]; omega)
  exact this
/-! ### A segment's bytes -/
theorem head_of (n : Int) (h : 1 ≤ n ∧ n ≤ 1073741824) (r : List UInt8) : headO (headB n ++ r) = some n := by
  have e1 : ((headB n ++ r).take 6).drop 1 = long1 n.toNat := rfl
  have e2 : tlN (long1 n.toNat) = (n, [], 0) := by
    have := tl_long n.toNat (by omega) []
    rw [List.append_nil] at this
    rw [this, Int.toNat_of_nonneg (by omega)]
  unfold headO
  rw [e1, e2, if_pos ⟨by rw [List.length_append, headB_len]; omega, rfl, rfl, by dsimp only; omega⟩]
theorem scan_recs : ∀ (l : List En) (pre r : List UInt8) (q : Nat), l.all rightB = true → (r.length < 15 ∨ takeE (r.take 15) = none) → l.length < q → scanL (pre ++ (recsB l ++ r)) q pre.length = l := by
  intro l
  induction l with
  | nil =>
    intro pre r q _ hr hq
    obtain ⟨q, rfl⟩ : ∃ q', q = q' + 1 := ⟨q - 1, by rw [List.length_nil] at hq; omega⟩
    rw [scanL]
    by_cases h : pre.length + 15 ≤ (pre ++ (recsB [] ++ r)).length
    · rw [if_pos h]
      have h15 : 15 ≤ r.length := by
        have : (pre ++ (recsB [] ++ r)).length = pre.length + r.length := by simp [recsB]
        omega
      have e : ((pre ++ (recsB [] ++ r)).take (pre.length + 15)).drop pre.length = r.take 15 := by
        show ((pre ++ r).take (pre.length + 15)).drop pre.length = _
        rw [List.take_append, List.take_of_length_le (by omega), List.drop_append, List.drop_eq_nil_of_le (Nat.le_refl _), Nat.sub_self, List.drop_zero, List.nil_append]
        congr 1; omega
      rw [e]
      rcases hr with hr | hr
      · omega
      · rw [hr]
    · rw [if_neg h]
  | cons e l ih =>
    intro pre r q ha hr hq
    rw [List.length_cons] at hq
    obtain ⟨q, rfl⟩ : ∃ q', q = q' + 1 := ⟨q - 1, by omega⟩
    rw [List.all_cons, Bool.and_eq_true] at ha
    have hl := recB_len e
    rw [scanL, recsB_cons, List.append_assoc]
    have e1 : ((pre ++ (recB e ++ (recsB l ++ r))).take (pre.length + 15)).drop pre.length = recB e := by
      rw [List.take_append, List.take_of_length_le (by omega), List.drop_append, List.drop_eq_nil_of_le (Nat.le_refl _), Nat.sub_self, List.drop_zero, List.nil_append, show pre.length + 15 - pre.length = (recB e).length by omega, List.take_left]
    rw [if_pos (by rw [List.length_append, List.length_append]; omega), e1, takeE_rec e ha.1]
    dsimp only
    have := ih (pre ++ recB e) r q ha.2 hr (by omega)
    rw [List.append_assoc, List.length_append, hl] at this
    rw [this]
theorem scan_of (n : Int) (h : 1 ≤ n ∧ n ≤ 1073741824) (l : List En) (ha : l.all rightB = true) (r : List UInt8) (hr : r.length < 15 ∨ takeE (r.take 15) = none) : scanR (headB n ++ (recsB l ++ r)) = (⟨n, l, ((6 + 15 * l.length : Nat) : Int)⟩, 0) := by
  have hs := scan_recs l (headB n) r ((headB n ++ (recsB l ++ r)).length + 1) ha hr (by rw [List.length_append, List.length_append, recsB_len]; omega)
  rw [headB_len] at hs
  unfold scanR
  rw [head_of n h]
  dsimp only
  rw [hs]
/-- What is scanned stands there. -/
theorem scan_inv (b : List UInt8) : ∀ (q k : Nat), k ≤ b.length → (scanL b q k).all rightB = true ∧ (b.drop k).take (15 * (scanL b q k).length) = recsB (scanL b q k) := by
  intro q
  induction q with
  | zero => intro k _; exact ⟨rfl, by simp [scanL, recsB]⟩
  | succ q ih =>
    intro k hk
    rw [scanL]
    by_cases h : k + 15 ≤ b.length
    · rw [if_pos h]
      cases ht : takeE ((b.take (k + 15)).drop k) with
      | none => exact ⟨rfl, by simp [recsB]⟩
      | some e =>
        obtain ⟨h1, h2⟩ := takeE_inv _ e (cut_len15 b k h) ht
        obtain ⟨h3, h4⟩ := ih (k + 15) h
        dsimp only
        refine ⟨by rw [List.all_cons, h1, h3]; rfl, ?_⟩
        have e1 : (b.drop k).take 15 = recB e := by
          rw [← h2, List.drop_take]
          congr 1; omega
        rw [List.length_cons, recsB_cons, ← h4, ← e1, show 15 * ((scanL b q (k + 15)).length + 1) = 15 + 15 * (scanL b q (k + 15)).length by omega, List.take_add, List.drop_drop]
    · rw [if_neg h]; exact ⟨rfl, by simp [recsB]⟩
theorem head_inv (b : List UInt8) (n : Int) (h : headO b = some n) : (1 ≤ n ∧ n ≤ 1073741824) ∧ b.take 6 = headB n ∧ 6 ≤ b.length := by
  unfold headO at h
  split at h
  case isFalse => cases h
  rename_i hc
  obtain ⟨h6, h1, h2, h3⟩ := hc
  obtain rfl := Option.some.inj h
  obtain ⟨X, hX, hX2, hl⟩ := tl_inv _ _ _ (tl_eta _ h2)
  have hr := tl_rest _ h2
  rw [List.length_drop, List.length_take] at hr
  have hn : (tlN ((b.take 6).drop 1)).2.1 = [] := List.eq_nil_of_length_eq_zero (by omega)
  rw [hn, List.append_nil] at hl
  refine ⟨by omega, ?_, h6⟩
  cases b with
  | nil => simp at h6
  | cons c m =>
    obtain rfl : c = 1 := Option.some.inj h1
    unfold headB
    rw [hX, Int.toNat_natCast, ← hl]
    rfl
/-! ### The same entries -/
theorem entries_l1 (l : List En) (hl : l.length ≤ 1000000) : ∀ (q k n : Nat) (v : Bool), q + k = l.length → q < n → m_ref07_Entries_l1 l l n v k = some true := by
  intro q
  induction q with
  | zero =>
    intro k n v hk hn
    obtain ⟨n, rfl⟩ : ∃ n', n = n' + 1 := ⟨n - 1, by omega⟩
    rw [m_ref07_Entries_l1, decide_eq_false (show ¬ (k : Int) < (l.length : Int) by omega), cond_false]
  | succ q ih =>
    intro k n v hk hn
    obtain ⟨n, rfl⟩ : ∃ n', n = n' + 1 := ⟨n - 1, by omega⟩
    obtain ⟨e, he, _⟩ := drop_step (show k < l.length by omega)
    have w1 : IntKind.wrap .i64 ((k : Int) + 1) = ((k + 1 : Nat) : Int) := by rw [w64i (by omega)]; omega
    rw [m_ref07_Entries_l1, decide_eq_true (show (k : Int) < (l.length : Int) by omega), cond_true, idx_nat, he, Option.bind_some, Option.bind_some, en_eq, decide_eq_true rfl, Bool.not_true, cond_false, w1]
    exact ih (k + 1) n v (by omega) (by omega)
theorem p_Entries07 (l : List En) (hl : l.length ≤ 1000000) : m_ref07_Entries l l = some true := by
  unfold m_ref07_Entries
  rw [decide_eq_false (fun h => h rfl), cond_false]
  exact entries_l1 l hl l.length 0 fuelN false (by omega) (by unfold fuelN; omega)
theorem p_same07 (l : List UInt8) : m_law07_same l l = some true := by unfold m_law07_same; rw [decide_eq_true rfl]
/-! ### The statements -/
theorem p_OneTells (x : Int) (l : List En) (b : List UInt8) : m_law07_OneTells x l b = some true := by
  unfold m_law07_OneTells
  simp only [p_wakes07, Option.bind_some, Bool.cond_decide]
  by_cases h1 : (40 : Int) < (l.length : Int)
  · rw [if_pos h1]
  by_cases h2 : (900 : Int) < (b.length : Int)
  · rw [if_neg h1, if_pos h2]
  rw [if_neg h1, if_neg h2]
  have hlog : (scanR b).1.log.length ≤ 1000000 := by
    unfold scanR
    split
    · rename_i n hn
      have := scan_len b (b.length + 1) 6 (head_inv b n hn).2.2
      dsimp only; omega
    · simp
  have hS : m_ref07_Same (scanR b).1 (scanR b).1 = some true := by
    unfold m_ref07_Same
    simp [p_Entries07 _ hlog]
  have hz : m_one_Size x = m_ref07_Size x := rfl
  obtain ⟨s, hs⟩ : ∃ s, m_ref07_Size x = some s := ⟨_, rfl⟩
  simp only [p_oneHead, p_refHead, p_onePut l (by omega), p_refPut l (by omega), p_oneFile x l (by omega), p_refFile x l (by omega), p_oneScan b (by omega), p_refScan b (by omega), p_same07, hS, hz, hs, Option.bind_some, Bool.not_true, cond_false, cond_true, ne_eq, not_true, if_false, if_true]
theorem p_OneOnly (b : List UInt8) : m_law07_OneOnly b = some true := by
  unfold m_law07_OneOnly
  simp only [p_wakes07, Option.bind_some, Bool.cond_decide]
  by_cases h2 : (900 : Int) < (b.length : Int)
  · rw [if_pos h2]
  rw [if_neg h2, p_oneScan b (by omega), Option.bind_some]
  unfold scanR
  cases hh : headO b with
  | none => rfl
  | some n =>
    obtain ⟨h3, h4, h5⟩ := head_inv b n hh
    have hlen := scan_len b (b.length + 1) 6 h5
    obtain ⟨h6, h7⟩ := scan_inv b (b.length + 1) 6 h5
    dsimp only
    generalize scanL b (b.length + 1) 6 = l at *
    have hfile : fileR n l = (headB n ++ recsB l, 0) := by unfold fileR; rw [if_pos ⟨h3, h6⟩]
    have hcut : headB n ++ recsB l = b.take (6 + 15 * l.length) := by rw [← h4, ← h7, List.take_add]
    have hz : m_one_Size (l.length : Int) = some (((6 + 15 * l.length : Nat) : Int)) := by
      unfold m_one_Size
      rw [show min (max (l.length : Int) 0) 1073741824 = (l.length : Int) by omega, w64i (n := 15 * (l.length : Int)) (by omega), w64i (by omega)]
      congr 1
    rw [if_neg (fun h => h rfl), p_oneFile n l (by omega), Option.bind_some, hfile]
    dsimp only
    rw [if_neg (fun h => h rfl), if_neg (by omega), if_neg (by omega), takeI_nat b _ hlen, Option.bind_some, hcut, p_same07, Option.bind_some, cond_true, hz, Option.bind_some, if_pos rfl]
theorem p_OneMore (x : Int) (l m : List En) : m_law07_OneMore x l m = some true := by
  unfold m_law07_OneMore
  simp only [p_wakes07, Option.bind_some, Bool.cond_decide]
  by_cases h1 : (20 : Int) < (l.length : Int)
  · rw [if_pos h1]
  by_cases h2 : (20 : Int) < (m.length : Int)
  · rw [if_neg h1, if_pos h2]
  rw [if_neg h1, if_neg h2, List.nil_append, fewI_ok _ (by omega), Option.bind_some, fewI_ok _ (by rw [List.length_append]; omega), Option.bind_some, p_oneHead, Option.bind_some, p_onePut l (by omega), Option.bind_some, p_onePut m (by omega), Option.bind_some, p_oneFile x (l ++ m) (by rw [List.length_append]; omega), Option.bind_some]
  have hn : fileR x (l ++ m) = ([], 2) ∨ ((1 ≤ x ∧ x ≤ 1073741824) ∧ l.all rightB = true ∧ m.all rightB = true) := by
    unfold fileR
    by_cases c : (1 ≤ x ∧ x ≤ 1073741824) ∧ (l ++ m).all rightB = true
    · have h2 := c.2
      rw [List.all_append, Bool.and_eq_true] at h2
      exact .inr ⟨c.1, h2⟩
    · rw [if_neg c]; exact .inl rfl
  by_cases c1 : 1 ≤ x ∧ x ≤ 1073741824
  case neg =>
    have a : headR x = ([], 2) := if_neg c1
    rw [a, hn.resolve_right (fun h => c1 h.1)]
    rfl
  have a : headR x = (headB x, 0) := if_pos c1
  by_cases c2 : l.all rightB = true
  case neg =>
    have b : putR l = ([], 2) := if_neg c2
    rw [a, b, hn.resolve_right (fun h => c2 h.2.1)]
    rfl
  have b : putR l = (recsB l, 0) := if_pos c2
  by_cases c3 : m.all rightB = true
  case neg =>
    have c : putR m = ([], 2) := if_neg c3
    rw [a, b, c, hn.resolve_right (fun h => c3 h.2.2)]
    rfl
  have c : putR m = (recsB m, 0) := if_pos c3
  have c4 : (l ++ m).all rightB = true := by rw [List.all_append, c2, c3]; rfl
  have d : fileR x (l ++ m) = (headB x ++ recsB (l ++ m), 0) := if_pos ⟨c1, c4⟩
  rw [a, b, c, d]
  have hlen : (headB x ++ recsB (l ++ m)).length ≤ 1000 := by rw [List.length_append, headB_len, recsB_len, List.length_append]; omega
  have hs : scanR (headB x ++ recsB (l ++ m)) = (⟨x, l ++ m, ((6 + 15 * (l ++ m).length : Nat) : Int)⟩, 0) := by
    have := scan_of x c1 (l ++ m) c4 [] (.inl (by decide))
    rw [List.append_nil] at this
    exact this
  have hb : headB x ++ recsB l ++ recsB m = headB x ++ recsB (l ++ m) := by rw [recsB_app, List.append_assoc]
  dsimp only
  rw [if_neg (fun h => h rfl), if_neg (fun h => h rfl), if_neg (fun h => h rfl), p_oneScan _ hlen, Option.bind_some, hs]
  dsimp only
  rw [if_pos rfl, if_pos rfl, List.nil_append, fewI_ok _ (by rw [headB_len]; omega), Option.bind_some, fewI_ok _ (by rw [List.length_append, headB_len, recsB_len]; omega), Option.bind_some, fewI_ok _ (by rw [hb]; omega), Option.bind_some, hb, p_same07, Option.bind_some, cond_true, p_Entries07 _ (by rw [List.length_append]; omega), Option.bind_some, cond_true]
theorem recB_inj (e f : En) (h1 : rightB e = true) (h2 : rightB f = true) (h : recB e = recB f) : e = f := by
  have := takeE_rec e h1
  rw [h, takeE_rec f h2] at this
  exact (Option.some.inj this).symm
theorem headB_inj (x y : Int) (h1 : 1 ≤ x ∧ x ≤ 1073741824) (h2 : 1 ≤ y ∧ y ≤ 1073741824) (h : headB x = headB y) : x = y := by
  have a := head_of x h1 []
  have b := head_of y h2 []
  rw [h] at a
  rw [a] at b
  exact Option.some.inj b
theorem p_OneApart (x y : En) (n m : Int) : m_law07_OneApart x y n m = some true := by
  have e1 : putR [x] = if rightB x = true then (recB x, 0) else ([], 2) := by unfold putR recsB; simp
  have e2 : putR [y] = if rightB y = true then (recB y, 0) else ([], 2) := by unfold putR recsB; simp
  have l1 := recB_len x
  unfold m_law07_OneApart
  rw [p_onePut _ (by simp), Option.bind_some, p_onePut _ (by simp), Option.bind_some, p_oneHead, Option.bind_some, p_oneHead, Option.bind_some, e1, e2]
  simp only [p_wakes07, p_Right, en_eq, Option.bind_some, Bool.cond_decide, m_law07_same]
  unfold headR
  have hxy : rightB x = true → rightB y = true → decide (recB x = recB y) = decide (x = y) := fun h1 h2 => by
    rw [Bool.eq_iff_iff, decide_eq_true_eq, decide_eq_true_eq]
    exact ⟨recB_inj x y h1 h2, fun h => by rw [h]⟩
  have hnm : (1 ≤ n ∧ n ≤ 1073741824) → (1 ≤ m ∧ m ≤ 1073741824) → decide (headB n = headB m) = decide (n = m) := fun h1 h2 => by
    rw [Bool.eq_iff_iff, decide_eq_true_eq, decide_eq_true_eq]
    exact ⟨headB_inj n m h1 h2, fun h => by rw [h]⟩
  cases hx : rightB x <;> cases hy : rightB y <;> by_cases c1 : 1 ≤ n <;> by_cases c2 : n ≤ 1073741824 <;> by_cases c3 : 1 ≤ m ∧ m ≤ 1073741824 <;>
    simp [c1, c2, c3, hx, hy, hxy, hnm, l1]
end Go.Proofs.YtofheinbbefbcaaDoor
