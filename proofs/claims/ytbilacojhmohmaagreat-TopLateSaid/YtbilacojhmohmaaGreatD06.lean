/- The functions of the program, as closures for the kernel: printed by a program. No condition. -/
import Derived.Test.YtbilacojhmohmaaGreatD05
set_option linter.unusedVariables false
set_option linter.unusedSimpArgs false
noncomputable section
namespace Go.Proofs.YtbilacojhmohmaaGreat.Ae
open Go
noncomputable section
abbrev yI : AV := .int .i64 (.ofNat 0)
abbrev yJ : AV := .int .i64 (.ofNat 1)
abbrev yB : AV := .int .u8 (.ofNat 0)
abbrev yE : AV := .int .u8 (.ofNat 8)
abbrev yW : AV := .int .u32 (.ofNat 0)
abbrev yH : AV := .int .u16 (.ofNat 0)
abbrev yS : AV := .slc none 0 (.known 0)
abbrev yR := kR (kEnd .ret)
abbrev yN := kR kD
abbrev yT (n : Nat) := pMv (gT n)
abbrev yC (a : AV) := pMv (gC a)
abbrev yG := @kGI
abbrev yP (k : Nat) (b : Bool) (n : Nat) (x : Pv) := kGI k b (some n) (kP n x)
abbrev yU (k : Nat) (b : Bool) (n : Nat) (x : Mv) := kGI k b (some n) (kM (some n) x)
abbrev iI (n : Nat) : AV := .int .i64 (.ofNat n)
abbrev iB (n : Nat) : AV := .int .u8 (.ofNat n)
abbrev yF : AV := .bool false
abbrev yV : AV := .bool true
abbrev yM (n m : Nat) := kP n (pMv (gT m))
abbrev yA (n : Nat) (x : Mv) := kM (some n) x
abbrev yZ := yC yI
abbrev yX := yC yF
abbrev yY := yC yS
abbrev yW1 := yC yV
abbrev yJ1 := yC yJ
abbrev yI1 := gC yI
abbrev yJ2 := gC yJ
abbrev yV1 := gC yV
abbrev yF1 := gC yF
abbrev J1 := gT 1
abbrev J2 := gT 2
abbrev J3 := gT 3
abbrev J4 := gT 4
abbrev J5 := gT 5
abbrev J6 := gT 6
abbrev J7 := gT 7
abbrev J8 := gT 8
abbrev J9 := gT 9
abbrev J10 := gT 10
abbrev J11 := gT 11
abbrev J12 := gT 12
abbrev J13 := gT 13
abbrev J14 := gT 14
abbrev J15 := gT 15
abbrev J16 := gT 16
abbrev J17 := gT 17
abbrev J18 := gT 18
abbrev J19 := gT 19
abbrev J20 := gT 20
abbrev J21 := gT 21
abbrev J22 := gT 22
abbrev J23 := gT 23
abbrev J24 := gT 24
abbrev J25 := gT 25
abbrev J26 := gT 26
abbrev J27 := gT 27
abbrev J28 := gT 28
abbrev J29 := gT 29
abbrev J30 := gT 30
abbrev J31 := gT 31
abbrev J32 := gT 32
abbrev J33 := gT 33
abbrev J34 := gT 34
abbrev J35 := gT 35
abbrev J36 := gT 36
abbrev J37 := gT 37
abbrev J38 := gT 38
abbrev J39 := gT 39
abbrev J40 := gT 40
abbrev J41 := gT 41
abbrev J42 := gT 42
abbrev J43 := gT 43
abbrev J44 := gT 44
abbrev J45 := gT 45
abbrev J46 := gT 46
abbrev J47 := gT 47
abbrev J48 := gT 48
abbrev J49 := gT 49
abbrev J50 := gT 50
abbrev J51 := gT 51
abbrev J52 := gT 52
abbrev J53 := gT 53
abbrev J54 := gT 54
abbrev J55 := gT 55
abbrev J56 := gT 56
abbrev J57 := gT 57
abbrev J58 := gT 58
abbrev J59 := gT 59
abbrev J60 := gT 60
abbrev J61 := gT 61
abbrev J62 := gT 62
abbrev J63 := gT 63
abbrev J64 := gT 64
abbrev J65 := gT 65
abbrev J66 := gT 66
abbrev J67 := gT 67
abbrev J68 := gT 68
abbrev J69 := gT 69
abbrev J70 := gT 70
abbrev J71 := gT 71
abbrev J72 := gT 72
abbrev J73 := gT 73
abbrev J74 := gT 74
abbrev J75 := gT 75
abbrev J76 := gT 76
abbrev J77 := gT 77
abbrev J78 := gT 78
abbrev J79 := gT 79
abbrev J80 := gT 80
abbrev J81 := gT 81
abbrev J82 := gT 82
abbrev J83 := gT 83
abbrev J84 := gT 84
abbrev J85 := gT 85
abbrev J86 := gT 86
abbrev J87 := gT 87
abbrev J88 := gT 88
abbrev J89 := gT 89
abbrev J90 := gT 90
abbrev J91 := gT 91
abbrev J92 := gT 92
abbrev J93 := gT 93
abbrev J94 := gT 94
abbrev J95 := gT 95
abbrev J96 := gT 96
abbrev J97 := gT 97
abbrev J98 := gT 98
abbrev J99 := gT 99
abbrev J100 := gT 100
abbrev J101 := gT 101
abbrev J102 := gT 102
abbrev J103 := gT 103
abbrev J104 := gT 104
abbrev J105 := gT 105
abbrev J106 := gT 106
abbrev J107 := gT 107
abbrev J108 := gT 108
abbrev J109 := gT 109
abbrev J110 := gT 110
abbrev J111 := gT 111
abbrev J112 := gT 112
abbrev J113 := gT 113
abbrev J114 := gT 114
abbrev J115 := gT 115
abbrev J116 := gT 116
abbrev J117 := gT 117
abbrev J118 := gT 118
abbrev J119 := gT 119
abbrev J120 := gT 120
abbrev J121 := gT 121
abbrev J122 := gT 122
abbrev J123 := gT 123
abbrev J124 := gT 124
abbrev J125 := gT 125
abbrev J126 := gT 126
abbrev J127 := gT 127
abbrev J128 := gT 128
abbrev J129 := gT 129
abbrev J130 := gT 130
abbrev J131 := gT 131
abbrev J132 := gT 132
abbrev J133 := gT 133
abbrev J135 := gT 135
abbrev J137 := gT 137
abbrev J138 := gT 138
abbrev J140 := gT 140
abbrev J141 := gT 141
abbrev J142 := gT 142
abbrev J143 := gT 143
abbrev J144 := gT 144
abbrev J145 := gT 145
abbrev yL (n : Nat) (f : KFn) : Tr KFn := .node n f .leaf .leaf .leaf .leaf
def kf9 : KFn := ⟨fun z => (kS (kR (kP 0 yX kD))
 (kS (kR (yA 6 (m_build [yI, yI, yI, yI, yI] [(0, 1, (.c (iI 2))), (1, 1, (.c (iI 100))), (2, 1, (.c (iI 2))), (3, 1, (.c (iI 50))), (4, 1, (.c (iI 5)))]) (kC z (some 7) 10 [J6] (yM 5 7 (kP 8 (pExt 0 J5) (kP 9 (pExt 1 J5) (yM 1 8 (yM 2 9 kD))))))))
 (kS (kS (kR (yM 10 2 (kP 11 (pNot J10) (yM 12 11 (yP 12 false 13 (yT 1) (yU 12 false 14 (m_nileq 0 false (.t 13)) (kP 15 (pPick J12 yV1 J14) kD)))))))
 (kQ J15 (kS (kR (kP 0 yX kD)) yR) yN))
 (kS (kR (yM 16 1 (yA 17 (m_build [yW, yI, yS, yI, yI, yI] [(0, 1, (.c (.int .u32 (.ofNat 1)))), (1, 1, (.c yJ)), (3, 1, (.c (iI 2))), (5, 1, (.c (iI 9)))]) (yA 18 (m_mkslc 5 2 [yB, yB] [(0, 1, (.c (iB 97))), (1, 1, (.c (iB 98)))]) (yA 19 (m_s2s (.t 18)) (yA 20 (m_build [yI, yW, yI, yS, yI, yI, yI, yS, yI, yI, yF, yB] [(0, 1, (.c yJ)), (1, 6, (.t 17)), (7, 1, (.t 19))]) (kC z (some 21) 11 [J16, J20] (yA 3 (m_alloc [yI, yS] 35) (kM none (m_store 2 (.t 3) (.t 21)) kD)))))))))
 (kS (kR (yM 22 1 (yA 23 (m_build [yI, yW, yI, yS, yI, yI, yI, yS, yI, yI, yF, yB] [(0, 1, (.c (iI 2)))]) (kC z (some 24) 11 [J22, J23] kD))))
 (kS (kR (yM 25 1 (yA 26 (m_build [yI, yW, yI, yS, yI, yI, yI, yS, yI, yI, yF, yB] [(0, 1, (.c (iI 3)))]) (kC z (some 27) 11 [J25, J26] kD))))
 (kS (kR (yM 28 1 (yA 29 (m_build [yI, yW, yI, yS, yI, yI, yI, yS, yI, yI, yF, yB] [(0, 1, (.c (iI 2)))]) (kC z (some 30) 11 [J28, J29] (yA 4 (m_alloc [yI, yS] 35) (kM none (m_store 2 (.t 4) (.t 30)) kD))))))
 (kS (kR (kP 31 (pO 0 J3) (kP 32 (pL J31) (kP 33 (pB .eql fEql J32 yI1) (yM 34 33 (yP 34 true 35 (pO 1 J4) (yP 34 true 36 (pL J35) (yP 34 true 37 (pLenS J36) (yP 34 true 38 (pB .eql fEql J37 yJ2) (kP 39 (pPick J34 J38 yF1) (yM 40 39 (yP 40 true 41 (pO 1 J4) (yP 40 true 42 (pL J41) (yP 40 true 43 (pIdxS 4 J42 yI1) (yP 40 true 44 (pO 3 J43) (yP 40 true 45 (pL J44) (yU 40 true 46 (m_b2s (.t 45)) (yU 40 true 47 (m_seq false (.t 46) (.c (.str [(iB 97), (iB 98)]))) (kP 48 (pPick J40 J47 yF1) (yM 0 48 kD)))))))))))))))))))) yR)))))))), 49, [.tmp 0]⟩
def kf10 : KFn := ⟨fun z => (kS (kR (yA 1 (m_box 27 (.t 0)) (kP 2 (yC (.ptr none)) (kP 3 yX kD))))
 (kS (kR (kP 9 (pM 5 J1) (kC z (some 10) 22 [J9] (yM 8 10 (kP 11 (pExt 0 J8) (kP 12 (pExt 1 J8) (yM 4 11 (yM 5 12 kD))))))))
 (kS (kR (kP 14 (pM 5 J1) (kC z (some 15) 23 [J14] (yM 13 15 (kP 16 (pExt 0 J13) (kP 17 (pExt 1 J13) (yM 6 16 (yM 7 17 kD))))))))
 (kS (kS (kR (yM 18 5 (kP 19 (pNot J18) (yM 20 19 (yP 20 false 21 (yT 7) (yP 20 false 22 (pNot J21) (kP 23 (pPick J20 yV1 J22) kD)))))))
 (kQ J23 (kS (kR (kP 2 (yC (.ptr none)) (kP 3 yX kD))) yR) yN))
 (kS (kDraw (kP 24 (pM 5 J1) (yM 25 4 (yM 26 6 (kC z (some 27) 24 [] (kOld (fun k a aw => iChk k a aw 24 none (.load (some 5) (.t 1))) (kC z (some 28) 24 [] (kOld (fun k a aw => iChk k a aw 24 none (.load (some 5) (.t 1))) (yA 29 (m_build [yI, yI, yI, yI, yI, (.ptr none), (.ptr none), (.ptr none), (.ptr none), yI, yS, (.int .u64 (.ofNat 0)), (.int .u64 (.ofNat 0)), (.int .u64 (.ofNat 0)), (.int .u64 (.ofNat 0)), (.int .u64 (.ofNat 0)), (.int .u64 (.ofNat 0))] [(0, 5, (.t 24)), (5, 1, (.t 25)), (6, 1, (.t 26)), (7, 1, (.t 27)), (8, 1, (.t 28))]) (yA 30 (m_box 91 (.t 29)) kD))))))))) (yM 2 30 (kP 3 yW1 kD))) yR))))), 31, [.tmp 2, .tmp 3]⟩
def kf11 : KFn := ⟨fun z => (kS (kR (yA 3 (m_box 39 (.t 1)) (yA 4 (m_alloc [yI, yS] 35) kD)))
 (kS (kS (kR (yM 7 0 (yA 8 (m_nileq 0 false (.t 7)) kD)))
 (kQ J8 (kS (kR (yA 9 (m_build [yI, yS] [(0, 1, (.c yJ))]) (kM none (m_store 2 (.t 4) (.t 9)) kD))) yR) yN))
 (kS (kR (yA 11 m_mkmap (kM none (m_mapset (.t 11) (.c yJ) (.c (.func (.func 25) [] []))) (kM none (m_mapset (.t 11) (.c (iI 2)) (.c (.func (.func 26) [] []))) (kM none (m_mapset (.t 11) (.c (iI 3)) (.c (.func (.func 27) [] []))) (kM none (m_mapset (.t 11) (.c (iI 4)) (.c (.func (.func 28) [] []))) (kM none (m_mapset (.t 11) (.c (iI 5)) (.c (.func (.func 29) [] []))) (kM none (m_mapset (.t 11) (.c (iI 6)) (.c (.func (.func 30) [] []))) (kM none (m_mapset (.t 11) (.c (iI 7)) (.c (.func (.func 31) [] []))) (kM none (m_mapset (.t 11) (.c (iI 8)) (.c (.func (.func 32) [] []))) (yM 12 11 (kP 13 (pO 0 J3) (kP 14 (pL J13) (yA 15 (m_look .nilFunc true (.t 12) (.t 14)) (yM 10 15 (kP 16 (pExt 0 J10) (kP 17 (pExt 1 J10) (yM 5 16 (yM 6 17 kD)))))))))))))))))))
 (kS (kS (kR (yM 18 6 (kP 19 (pNot J18) kD)))
 (kQ J19 (kS (kR (yA 20 (m_build [yI, yS] [(0, 1, (.c yJ))]) (kM none (m_store 2 (.t 4) (.t 20)) kD))) yR) yN))
 (kS (kR (yM 21 5 (yM 22 0 (kP 23 (pM 12 J3) (kCallv z (some 24) (.t 21) [J22, J23] (kM none (m_store 2 (.t 4) (.t 24)) kD)))))) yR))))), 25, [.cell 4 (some 2)]⟩
def kf12 : KFn := ⟨fun z => (kS (kR (kP 2 yY kD))
 (kS (kS (kR (yM 3 0 (yA 4 (m_nileq 0 false (.t 3)) kD)))
 (kQ J4 (kS (kR (kP 2 yY kD)) yR) yN))
 (kS (kR (yM 5 0 (kP 6 (pNil J5) (kP 7 (pO 10 J6) (kP 8 (pL J7) (kC z (some 9) 33 [J8] (yM 2 9 kD))))))) yR))), 10, [.tmp 2]⟩
def kf13 : KFn := ⟨fun z => (kS (kR (kP 4 yZ kD))
 (kS (kS (kR (yM 5 0 (yA 6 (m_nileq 0 false (.t 5)) kD)))
 (kQ J6 (kS (kR (kP 4 yZ kD)) yR) yN))
 (kS (kR (yM 7 0 (yM 8 1 (kC z (some 9) 34 [J7, J8] (kC z (some 10) 35 [J9] (yM 4 10 kD)))))) yR))), 11, [.tmp 4]⟩
def kf22 : KFn := ⟨fun z => (kS (kR (yA 1 (m_box 27 (.t 0)) (kP 2 (yC (.ptr none)) (kP 3 yX kD))))
 (kS (kS (kR (kP 4 (pM 5 J1) (kC z (some 5) 48 [J4] (kP 6 (pNot J5) kD))))
 (kQ J6 (kS (kR (kP 2 (yC (.ptr none)) (kP 3 yX kD))) yR) yN))
 (kS (kDraw (kP 7 (pM 5 J1) (kC z (some 8) 49 [] (kOld (fun k a aw => iChk k a aw 7 none (.load (some 5) (.t 1))) (kC z (some 10) 50 [] (kOld (fun k a aw => iChk k a aw 7 none (.load (some 5) (.t 1))) (kC z (some 11) 51 [] (kOld (fun k a aw => iChk k a aw 7 none (.load (some 5) (.t 1))) (kC z (some 12) 52 [] (kOld (fun k a aw => iChk k a aw 7 none (.load (some 5) (.t 1))) (kC z (some 13) 53 [] (kOld (fun k a aw => iChk k a aw 7 none (.load (some 5) (.t 1))) (yA 9 m_mkmap (kOld (fun k a aw => iChk k a aw 7 none (.load (some 5) (.t 1))) (yA 14 (m_build [yI, yI, yI, yI, yI, (.ptr none), yS, (.map none), (.ptr none), (.ptr none), (.ptr none), (.ptr none), yI, yH] [(0, 5, (.t 7)), (5, 1, (.t 8)), (7, 1, (.t 9)), (8, 1, (.t 10)), (9, 1, (.t 11)), (10, 1, (.t 12)), (11, 1, (.t 13))]) (yA 15 (m_box 131 (.t 14)) kD))))))))))))))) (yM 2 15 (kP 3 yW1 kD))) yR))), 16, [.tmp 2, .tmp 3]⟩
def kf23 : KFn := ⟨fun z => (kS (kR (yA 1 (m_box 27 (.t 0)) (kP 2 (yC (.ptr none)) (kP 3 yX kD))))
 (kS (kS (kR (kP 6 (pM 5 J1) (kC z (some 7) 48 [J6] (kP 8 (pNot J7) kD))))
 (kQ J8 (kS (kR (kP 2 (yC (.ptr none)) (kP 3 yX kD))) yR) yN))
 (kS (kDraw (kP 11 (pO 2 J1) (kP 12 (pL J11) (kP 13 (pO 3 J1) (kP 14 (pL J13) (kP 15 (pO 0 J1) (kP 16 (pL J15) (kC z (some 10) 49 [] (kOld (fun k a aw => iChk k a aw 16 none (.load none (.t 15))) (kOld (fun k a aw => iChk k a aw 14 none (.load none (.t 13))) (kOld (fun k a aw => iChk k a aw 12 none (.load none (.t 11))) (kC z (some 17) 54 [J10, J12, J14, J16] (yM 9 17 (kP 18 (pExt 0 J9) (kP 19 (pExt 1 J9) (yM 4 18 kD))))))))))))))) (yM 5 19 kD))
 (kS (kS (kR (yM 20 5 (kP 21 (pNot J20) kD)))
 (kQ J21 (kS (kR (kP 2 (yC (.ptr none)) (kP 3 yX kD))) yR) yN))
 (kS (kDraw (kP 22 (pM 5 J1) (yM 23 4 (kC z (some 24) 55 [] (kOld (fun k a aw => iChk k a aw 22 none (.load (some 5) (.t 1))) (kC z (some 25) 56 [] (kOld (fun k a aw => iChk k a aw 22 none (.load (some 5) (.t 1))) (kC z (some 26) 57 [] (kOld (fun k a aw => iChk k a aw 22 none (.load (some 5) (.t 1))) (yA 27 (m_build [yI, yI, yI, yI, yI, (.ptr none), (.ptr none), (.ptr none), (.ptr none), (.int .u64 (.ofNat 0)), (.int .u64 (.ofNat 0))] [(0, 5, (.t 22)), (5, 1, (.t 23)), (6, 1, (.t 24)), (7, 1, (.t 25)), (8, 1, (.t 26))]) (yA 28 (m_box 142 (.t 27)) kD)))))))))) (yM 2 28 (kP 3 yW1 kD))) yR))))), 29, [.tmp 2, .tmp 3]⟩
def kf24 : KFn := ⟨fun z => (kS (kR (kP 0 (yC (.ptr none)) kD))
 (kS (kR (yA 1 (m_build [yS] []) (yA 2 (m_box 144 (.t 1)) (yM 0 2 kD)))) yR)), 3, [.tmp 0]⟩
def kf25 : KFn := ⟨fun z => (kS (kR (yA 3 (m_box 39 (.t 1)) (yA 4 (m_alloc [yI, yS] 35) kD)))
 (kS (kDraw (yM 6 0 (kP 7 (pNil J6) (kP 8 (pO 5 J7) (kP 9 (pL J8) (kP 10 (pO 1 J3) (kP 11 (pM 6 J10) (kP 12 (pO 7 J3) (kP 13 (pL J12) (yM 14 0 (kP 15 (pNil J14) (kP 16 (pO 9 J15) (kP 17 (pL J16) (kC z (some 18) 58 [J9, J11, J13, J17] kD))))))))))))) (yM 5 18 kD))
 (kS (kS (kR (yM 19 5 (kP 20 (pB .eql fEql J19 yI1) kD)))
 (kQ J20 (kDraw (yM 21 0 (kP 22 (pNil J21) (kP 23 (pO 6 J22) (kP 24 (pL J23) (kP 25 (pO 1 J3) (kP 26 (pM 6 J25) (kC z (some 27) 59 [J24, J26] kD))))))) kD) yN))
 (kS (kR (yM 28 5 (yA 29 (m_build [yI, yS] [(0, 1, (.t 28))]) (kM none (m_store 2 (.t 4) (.t 29)) kD)))) yR)))), 30, [.cell 4 (some 2)]⟩
def kf26 : KFn := ⟨fun z => (kS (kR (yA 3 (m_box 39 (.t 1)) (yA 4 (m_alloc [yI, yS] 35) kD)))
 (kS (kR (yM 11 0 (yM 12 0 (kP 13 (pNil J12) (kP 14 (pO 9 J13) (kP 15 (pL J14) (kP 16 (pB .add fAdd J15 yJ2) (yA 17 (m_mn (.t 16) (.c (iI 1099511627776))) (kP 18 (pNil J11) (kP 19 (pO 9 J18) (kM none (m_store 1 (.t 19) (.t 17)) kD)))))))))))
 (kS (kS (kDraw (yM 20 0 (kP 21 (pNil J20) (kP 22 (pO 5 J21) (kP 23 (pL J22) (yM 24 0 (kP 25 (pNil J24) (kP 26 (pO 9 J25) (kP 27 (pL J26) (kP 30 yZ (kC z (some 28) 60 [J23, J27] (kP 29 (pLenS J28) kD))))))))))) kD)
 (kO 0 (kLoop (kS (kR (kP 31 (pB .lss fLss J30 J29) kD))
 (kS (kQ J31 yN (kR (kEnd (.exit 0))))
 (kS (kO 1 (kS (kR (kP 32 (pIdxS 1 J28 J30) (kP 33 (pL J32) (yM 6 33 kD))))
 (kS (kR (yM 34 0 (yM 35 6 (kC z (some 36) 61 [J34, J35] kD))))
 (kR (yM 37 0 (kP 38 (pNil J37) (kP 39 (pO 7 J38) (kP 40 (pL J39) (yM 41 6 (kC z (some 42) 62 [J40, J41] kD))))))))))
 (kR (kP 43 (pB .add fAdd J30 yJ2) (yM 30 43 kD)))))))))
 (kS (kDraw (yM 45 0 (kP 46 (pNil J45) (kP 47 (pO 6 J46) (kP 48 (pL J47) (yM 49 0 (kP 50 (pNil J49) (kP 51 (pO 9 J50) (kP 52 (pL J51) (kC z (some 53) 63 [J48, J52] (yM 44 53 (kP 54 (pExt 0 J44) (kP 55 (pExt 1 J44) (yM 7 54 kD))))))))))))) (yM 8 55 kD))
 (kS (kS (kR (yM 56 8 (kP 57 (pLenS J56) (kP 58 yZ kD))))
 (kO 2 (kLoop (kS (kR (kP 59 (pB .lss fLss J58 J57) kD))
 (kS (kQ J59 yN (kR (kEnd (.exit 2))))
 (kS (kO 3 (kS (kR (kP 60 (pIdxS 1 J56 J58) (kP 61 (pL J60) (yM 10 61 kD))))
 (kR (yM 62 0 (kP 63 (pNil J62) (kP 64 (pO 8 J63) (kP 65 (pL J64) (yM 66 10 (kC z (some 67) 62 [J65, J66] kD)))))))))
 (kR (kP 68 (pB .add fAdd J58 yJ2) (yM 58 68 kD)))))))))
 (kS (kDraw (yM 69 0 (yM 70 0 (kP 71 (pNil J70) (kP 72 (pO 10 J71) (kP 73 (pL J72) (yM 74 7 (kC z (some 75) 33 [J74] (kOld (fun k a aw => iChk k a aw 73 none (.load none (.t 72))) (yA 76 (m_append 42 4 48 (.t 73) (.t 75)) (kP 77 (pNil J69) (kP 78 (pO 10 J77) (kM none (m_store 1 (.t 78) (.t 76)) kD)))))))))))) kD)
 (kS (kR (yM 79 7 (yA 80 (m_build [yI, yS] [(1, 1, (.t 79))]) (kM none (m_store 2 (.t 4) (.t 80)) kD)))) yR))))))), 81, [.cell 4 (some 2)]⟩
def kf27 : KFn := ⟨fun z => (kS (kR (yA 3 (m_box 39 (.t 1)) (yA 4 (m_alloc [yI, yS] 35) kD)))
 (kS (kDraw (yM 9 0 (kP 10 (pO 10 J3) (kP 11 (pL J10) (kP 13 (pO 8 J3) (kP 14 (pL J13) (kC z (some 12) 34 [J9, J11] (kOld (fun k a aw => iChk k a aw 14 none (.load none (.t 13))) (kC z (some 15) 64 [J12, J14] (yM 8 15 (kP 16 (pExt 0 J8) (kP 17 (pExt 1 J8) (yM 5 16 kD)))))))))))) (yM 6 17 kD))
 (kS (kO 0 (kS (kR (yM 19 6 (kP 20 (pNot J19) (yM 18 20 kD))))
 (kQ J18 (kS (kR (yA 21 (m_build [yI, yS] []) (kM none (m_store 2 (.t 4) (.t 21)) kD))) yR) (kS (kR (kP 23 (pO 10 J3) (kP 24 (pL J23) (kP 25 (pNot J24) (yM 22 25 kD)))))
 (kQ J22 (kS (kDraw (yM 26 0 (kP 27 (pNil J26) (kP 28 (pO 6 J27) (kP 29 (pL J28) (yM 30 5 (yM 31 0 (kP 32 (pNil J31) (kP 33 (pO 9 J32) (kP 34 (pL J33) (kC z (some 35) 65 [J29, J30, J34] (yA 36 (m_build [yI, yS] [(0, 1, (.t 35))]) kD))))))))))) (kM none (m_store 2 (.t 4) (.t 36)) kD)) yR) yN)))))
 (kS (kR (yM 37 0 (kP 38 (pNil J37) (kP 39 (pO 5 J38) (kP 40 (pL J39) (yM 41 5 (kC z (some 42) 66 [J40, J41] (yM 7 42 kD))))))))
 (kS (kS (kR (yM 43 7 (kP 44 (pB .neq fNeq J43 yI1) kD)))
 (kQ J44 (kR (yM 45 0 (kP 46 (pNil J45) (kP 47 (pO 16 J46) (kP 48 (pL J47) (kP 49 (pB .add fAdd J48 (gC (.int .u64 (.ofNat 1)))) (kP 50 (pNil J45) (kP 51 (pO 16 J50) (kM none (m_store 1 (.t 51) (.t 49)) kD))))))))) yN))
 (kS (kR (yM 52 7 (yA 53 (m_build [yI, yS] [(0, 1, (.t 52))]) (kM none (m_store 2 (.t 4) (.t 53)) kD)))) yR)))))), 54, [.cell 4 (some 2)]⟩
def kf29 : KFn := ⟨fun z => (kS (kR (yA 3 (m_box 39 (.t 1)) (yA 4 (m_alloc [yI, yS] 35) kD)))
 (kS (kDraw (yM 5 0 (kP 6 (pO 10 J3) (kP 7 (pL J6) (kP 9 (pO 8 J3) (kP 10 (pL J9) (kC z (some 8) 34 [J5, J7] (kOld (fun k a aw => iChk k a aw 10 none (.load none (.t 9))) (kC z (some 11) 68 [J8, J10] kD)))))))) kD)
 (kS (kR (yA 12 (m_build [yI, yS] []) (kM none (m_store 2 (.t 4) (.t 12)) kD))) yR))), 13, [.cell 4 (some 2)]⟩
def kf33 : KFn := ⟨fun z => (kS (kR (kP 2 yY kD))
 (kS (kS (kR (yM 5 0 (kP 6 (pLenS J5) (kP 7 yZ kD))))
 (kO 0 (kLoop (kS (kR (kP 8 (pB .lss fLss J7 J6) kD))
 (kS (kQ J8 yN (kR (kEnd (.exit 0))))
 (kS (kO 1 (kS (kR (kP 9 (pIdxS 4 J5 J7) (kP 10 (pM 4 J9) (yA 4 (m_alloc [yI, yW, yI, yS] 42) (kM none (m_store 4 (.t 4) (.t 10)) kD)))))
 (kS (kR (kP 11 (pO 3 J4) (kP 12 (pL J11) (kC z (some 13) 71 [J12] (kP 14 (pO 3 J4) (kM none (m_store 1 (.t 14) (.t 13)) kD))))))
 (kR (yM 15 2 (kP 16 (pM 4 J4) (yA 17 (m_mkslc 42 1 [yI, yW, yI, yS] [(0, 4, (.t 16))]) (yA 18 (m_append 42 4 48 (.t 15) (.t 17)) (yM 2 18 kD)))))))))
 (kR (kP 19 (pB .add fAdd J7 yJ2) (yM 7 19 kD)))))))))
 (kS (kR (yM 20 2 (yM 2 20 kD))) yR))), 21, [.tmp 2]⟩
def kf34 : KFn := ⟨fun z => (kS (kR (kP 4 (yC (.ptr none)) kD))
 (kS (kS (kR (yM 5 1 kD))
 (kQ J5 (kS (kR (yM 6 0 (kP 7 (pNil J6) (kP 8 (pO 8 J7) (kP 9 (pL J8) (yM 4 9 kD)))))) yR) yN))
 (kS (kR (yM 10 0 (kP 11 (pNil J10) (kP 12 (pO 7 J11) (kP 13 (pL J12) (yM 4 13 kD)))))) yR))), 14, [.tmp 4]⟩
def kf35 : KFn := ⟨fun z => (kS (kR (kP 2 yZ kD))
 (kS (kS (kR (yM 3 0 (yA 4 (m_nileq 0 false (.t 3)) kD)))
 (kQ J4 (kS (kR (kP 2 yZ kD)) yR) yN))
 (kS (kR (yM 5 0 (kP 6 (pNil J5) (kP 7 (pO 0 J6) (kP 8 (pL J7) (kP 9 (pLenS J8) (yM 2 9 kD))))))) yR))), 10, [.tmp 2]⟩
def kf37 : KFn := ⟨fun z => (kS (kR (kP 4 yY (kP 5 yX kD)))
 (kS (kS (kR (yM 6 0 (yM 7 1 (kC z (some 8) 75 [J6, J7] (kP 9 (pNot J8) kD)))))
 (kQ J9 (kS (kR (kP 4 yY (kP 5 yX kD))) yR) yN))
 (kS (kR (yM 10 0 (kP 11 (pNil J10) (kP 12 (pO 0 J11) (kP 13 (pL J12) (yM 14 1 (kP 15 (pIdxS 1 J13 J14) (kP 16 (pL J15) (kC z (some 17) 71 [J16] (yM 4 17 (kP 5 yW1 kD))))))))))) yR))), 18, [.tmp 4, .tmp 5]⟩
def kf48 : KFn := ⟨fun z => (kS (kR (yA 1 (m_box 27 (.t 0)) (kP 2 yX kD)))
 (kS (kR (kP 3 (yC (.func (.func 83) [] [])) kD))
 (kS (kDraw (yM 4 3 (kP 5 (pO 0 J1) (kP 6 (pL J5) (kCallv z (some 7) (.t 4) [J6, yJ2, (gC (iI 64))] (yM 8 7 (yP 8 true 9 (yT 3) (yP 8 true 10 (pO 1 J1) (yP 8 true 11 (pL J10) (yP 8 true 12 (pO 0 J1) (yP 8 true 13 (pL J12) (yG 8 true (some 14) (kC z (some 14) 84 [J13]) (kOld (fun k a aw => iChk k a aw 11 (some (8, true)) (.load none (.t 10))) (yG 8 true (some 15) (kCallv z (some 15) (.t 9) [J11, J14, (gC (iI 65536))]) (kP 16 (pPick J8 J15 yF1) (yM 17 16 (yP 17 true 18 (yT 3) (yP 17 true 19 (pO 2 J1) (yP 17 true 20 (pL J19) (yG 17 true (some 21) (kCallv z (some 21) (.t 18) [J20, yJ2, (gC (iI 16))]) (kP 22 (pPick J17 J21 yF1) (yM 23 22 (yP 23 true 24 (yT 3) (yP 23 true 25 (pO 3 J1) (yP 23 true 26 (pL J25) (yG 23 true (some 27) (kCallv z (some 27) (.t 24) [J26, yJ2, (gC (iI 65536))]) (kP 28 (pPick J23 J27 yF1) (yM 29 28 (yP 29 true 30 (yT 3) (yP 29 true 31 (pO 4 J1) (yP 29 true 32 (pL J31) (yG 29 true (some 33) (kCallv z (some 33) (.t 30) [J32, yJ2, (gC (iI 1000))]) (kP 34 (pPick J29 J33 yF1) kD)))))))))))))))))))))))))))))))) (yM 2 34 kD)) yR))), 35, [.tmp 2]⟩
def kf49 : KFn := ⟨fun z => (kS (kR (kP 0 (yC (.ptr none)) kD))
 (kS (kR (yA 4 (m_build [yB, yB, yB, yB, yB, yB, yB, yB, yB, yB, yB, yB, yB, yB, yB, yB, yB, yB, yB, yB, yB, yB, yB, yB, yB, yB, yB, yB, yB, yB, yB, yB, yB, yB, yB, yB, yB, yB, yB, yB, yB, yB, yB, yB, yB, yB, yB, yB, yB, yB, yB, yB, yB, yB, yB, yB, yB, yB, yB, yB, yB, yB, yB, yB, yB, yB, yB, yB, yB, yB, yB, yB, yB, yB, yB, yB, yB, yB, yB, yB, yB, yB, yB, yB, yB, yB, yB, yB, yB, yB, yB, yB, yB, yB, yB, yB, yB, yB, yB, yB, yB, yB, yB, yB, yB, yB, yB, yB, yB, yB, yB, yB, yB, yB, yB, yB, yB, yB, yB, yB, yB, yB, yB, yB, yB, yB, yB, yB, yB, yB, yB, yB, yB, yB, yB, yB, yB, yB, yB, yB, yB, yB, yB, yB, yB, yB, yB, yB, yB, yB, yB, yB, yB, yB, yB, yB, yB, yB, yB, yB, yB, yB, yB, yB, yB, yB, yB, yB, yB, yB, yB, yB, yB, yB, yB, yB, yB, yB, yB, yB, yB, yB, yB, yB, yB, yB, yB, yB, yB, yB, yB, yB, yB, yB, yB, yB, yB, yB, yB, yB, yB, yB, yB, yB, yB, yB, yB, yB, yB, yB, yB, yB, yB, yB, yB, yB, yB, yB, yB, yB, yB, yB, yB, yB, yB, yB, yB, yB, yB, yB, yB, yB, yB, yB, yB, yB, yB, yB, yB, yB, yB, yB, yB, yB, yB, yB, yB, yB, yB, yB, yB, yB, yB, yB, yB, yB, yB, yB, yB, yB, yB, yB, yB, yB, yB, yB, yB, yB, yB, yB, yB, yB, yB, yB, yB, yB, yB, yB, yB, yB, yB, yB, yB, yB, yB, yB, yB, yB, yB, yB, yB, yB, yB, yB, yB, yB, yB, yB, yB, yB, yB, yB, yB, yB, yB, yB, yB, yB, yB, yB, yB, yB, yB, yB, yB, yB, yB, yB, yB, yB, yB, yB, yB, yB, yB, yB, yB, yB, yB, yB, yB, yB, yB, yB, yB, yB, yB, yB, yB, yB, yB, yB, yB, yB, yB, yB, yB, yB, yB, yB, yB, yB, yB, yB, yB, yB, yB, yB, yB, yB, yB, yB, yB, yB, yB, yB, yB, yB, yB, yB, yB, yB, yB, yB, yB, yB, yB, yB, yB, yB, yB, yB, yB, yB, yB, yB, yB, yB, yB, yB, yB, yB, yB, yB, yB, yB, yB, yB, yB, yB, yB, yB, yB, yB, yB, yB, yB, yB, yB, yB, yB, yB, yB, yB, yB, yB, yB, yB, yB, yB, yB, yB, yB, yB, yB, yB, yB, yB, yB, yB, yB, yB, yB, yB, yB, yB, yB, yB, yB, yB, yB, yB, yB, yB, yB, yB, yB, yB, yB, yB, yB, yB, yB, yB, yB, yB, yB, yB, yB, yB, yB, yB, yB, yB, yB, yB, yB, yB, yB, yB, yB, yB, yB, yB, yB, yB, yB, yB, yB, yB, yB, yB, yB, yB, yB, yB, yB, yB, yB, yB, yB, yB, yB, yB, yB, yB, yB, yB, yB, yB, yB, yB, yB, yB, yB, yB, yB, yB, yB, yB, yI, yI, yI, yI, yI, yI, yI, yI, yI, yI, yI, yI, yI, yI, yI, yI, yI, yI, yI, yI, yI, yI, yI, yI, yI, yI, yI, yI, yI, yI, yI, yI, yI, yI, yI, yI, yI, yI, yI, yI, yI, yI, yI, yI, yI, yI, yI, yI, yI, yI, yI, yI, yI, yI, yI, yI, yI, yI, yI, yI, yI, yI, yI, yI, yI, yI, yI, yI, yI, yI, yI, yI, yI, yI, yI, yI, yI, yI, yI, yI, yI, yI, yI, yI, yI, yI, yI, yI, yI, yI, yI, yI, yI, yI, yI, yI, yI, yI, yI, yI, yI, yI, yI, yI, yI, yI, yI, yI, yI, yI, yI, yI, yI, yI, yI, yI, yI, yI, yI, yI, yI, yI, yI, yI, yI, yI, yI, yI, yI, yI, yI, yI, yI, yI, yI, yI, yI, yI, yI, yI, yI, yI, yI, yI, yI, yI, yI, yI, yI, yI, yI, yI, yI, yI, yI, yI, yI, yI, yI, yI, yI, yI, yI, yI, yI, yI, yI, yI, yI, yI, yI, yI, yI, yI, yI, yI, yI, yI, yI, yI, yI, yI, yI, yI, yI, yI, yI, yI, yI, yI, yI, yI, yI, yI, yI, yI, yI, yI, yI, yI, yI, yI, yI, yI, yI, yI, yI, yI, yI, yI, yI, yI, yI, yI, yI, yI, yI, yI, yI, yI, yI, yI, yI, yI, yI, yI, yI, yI, yI, yI, yI, yI, yI, yI, yI, yI, yI, yI, yI, yI, yI, yI, yI, yI, yI, yI, yI, yI, yI, yI, yI, yI, yI, yI, yI, yI] []) (yA 5 (m_box 177 (.t 4)) (yM 1 5 kD))))
 (kS (kR (kP 2 yJ1 kD))
 (kS (kS (kR (kP 6 yZ kD))
 (kO 0 (kLoop (kS (kR (kP 7 (pB .lss fLss J6 (gC (iI 255))) kD))
 (kS (kQ J7 yN (kR (kEnd (.exit 0))))
 (kS (kO 1 (kS (kR (yM 8 6 (yM 3 8 kD)))
 (kS (kDraw (yM 9 1 (yM 10 3 (yM 11 1 (yM 12 3 (kP 13 (pB .add fAdd J12 (gC (iI 255))) (yM 14 2 (kP 15 (pConv .u8 J14) (yM 16 2 (kP 17 (pConv .u8 J16) (kP 18 (pNil J9) (kP 19 (pO 0 J18) (yA 20 (m_idxA 510 1 (.t 19) (.t 10)) (kP 21 (pNil J11) (kP 22 (pO 0 J21) (kM none (m_store 1 (.t 20) (.t 15)) (yA 23 (m_idxA 510 1 (.t 22) (.t 13)) (kM none (m_store 1 (.t 23) (.t 17)) kD))))))))))))))))) kD)
 (kS (kR (yM 24 1 (yM 25 2 (yM 26 3 (kP 27 (pNil J24) (kP 28 (pO 510 J27) (yA 29 (m_idxA 256 1 (.t 28) (.t 25)) (kM none (m_store 1 (.t 29) (.t 26)) kD))))))))
 (kS (kR (yM 30 2 (kP 31 (pShift .shl fShl J30 (gC (.int .u64 (.ofNat 1)))) (yM 2 31 kD))))
 (kS (kR (yM 32 2 (kP 33 (pShift .shr fShr J32 (gC (.int .u64 (.ofNat 8)))) (kP 34 (pB .gtr fGtr J33 yI1) kD))))
 (kQ J34 (kR (yM 35 2 (kP 36 (pB .xor fXor J35 (gC (iI 285))) (yM 2 36 kD)))) yN)))))))
 (kR (kP 37 (pB .add fAdd J6 yJ2) (yM 6 37 kD)))))))))
 (kS (kR (yM 38 1 (yM 0 38 kD))) yR))))), 39, [.tmp 0]⟩
def kf50 : KFn := ⟨fun z => (kS (kR (kP 0 (yC (.ptr none)) kD))
 (kS (kR (yA 1 (m_build [yS] []) (yA 2 (m_box 181 (.t 1)) (yM 0 2 kD)))) yR)), 3, [.tmp 0]⟩
def kf51 : KFn := ⟨fun z => (kS (kR (kP 0 (yC (.ptr none)) kD))
 (kS (kR (yA 1 m_mkmap (yA 2 (m_build [(.map none)] [(0, 1, (.t 1))]) (yA 3 (m_box 184 (.t 2)) (yM 0 3 kD))))) yR)), 4, [.tmp 0]⟩
def kf52 : KFn := ⟨fun z => (kS (kR (kP 0 (yC (.ptr none)) kD))
 (kS (kR (yA 1 (m_build [(.int .u64 (.ofNat 0)), yF] []) (yA 2 (m_box 186 (.t 1)) (yM 0 2 kD)))) yR)), 3, [.tmp 0]⟩
def kf53 : KFn := ⟨fun z => (kS (kR (kP 0 (yC (.ptr none)) kD))
 (kS (kR (yA 1 (m_build [yI, yF] []) (yA 2 (m_box 188 (.t 1)) (yM 0 2 kD)))) yR)), 3, [.tmp 0]⟩
def kf54 : KFn := ⟨fun z => (kS (kR (kP 8 (yC (.ptr none)) (kP 9 yX kD)))
 (kS (kS (kR (yM 10 0 (yA 11 (m_nileq 0 false (.t 10)) (yM 12 11 (yP 12 false 13 (yT 1) (yP 12 false 14 (pB .lss fLss J13 yJ2) (kP 15 (pPick J12 yV1 J14) (yM 16 15 (yP 16 false 17 (yT 1) (yP 16 false 18 (pB .gtr fGtr J17 (gC (iI 16))) (kP 19 (pPick J16 yV1 J18) (yM 20 19 (yP 20 false 21 (yT 2) (yP 20 false 22 (pB .lss fLss J21 yJ2) (kP 23 (pPick J20 yV1 J22) (yM 24 23 (yP 24 false 25 (yT 2) (yP 24 false 26 (pB .gtr fGtr J25 (gC (iI 65536))) (kP 27 (pPick J24 yV1 J26) (yM 28 27 (yP 28 false 29 (yT 3) (yP 28 false 30 (pB .lss fLss J29 yJ2) (kP 31 (pPick J28 yV1 J30) (yM 32 31 (yP 32 false 33 (yT 3) (yP 32 false 34 (pB .gtr fGtr J33 (gC (iI 64))) (kP 35 (pPick J32 yV1 J34) kD)))))))))))))))))))))))))))
 (kQ J35 (kS (kR (kP 8 (yC (.ptr none)) (kP 9 yX kD))) yR) yN))
 (kS (kR (yM 36 0 (yM 37 1 (yM 38 2 (yM 39 3 (yA 40 m_mkmap (yA 41 (m_build [(.ptr none), yI, yI, yI, (.map none)] [(0, 1, (.t 36)), (1, 1, (.t 37)), (2, 1, (.t 38)), (3, 1, (.t 39)), (4, 1, (.t 40))]) (yA 42 (m_box 191 (.t 41)) (yM 8 42 (kP 9 yW1 kD)))))))))) yR))), 43, [.tmp 8, .tmp 9]⟩
def kf55 : KFn := ⟨fun z => (kS (kR (kP 0 (yC (.ptr none)) kD))
 (kS (kR (yA 1 (m_build [yS, yS] []) (yA 2 (m_box 194 (.t 1)) (yM 0 2 kD)))) yR)), 3, [.tmp 0]⟩
def kf56 : KFn := ⟨fun z => (kS (kR (kP 0 (yC (.ptr none)) kD))
 (kS (kR (kC z (some 1) 85 [] (yA 2 m_mkmap (yA 3 (m_build [(.ptr none), (.map none), (.int .u64 (.ofNat 0)), yF, (.int .u64 (.ofNat 0)), (.int .u64 (.ofNat 0))] [(0, 1, (.t 1)), (1, 1, (.t 2))]) (yA 4 (m_box 199 (.t 3)) (yM 0 4 kD)))))) yR)), 5, [.tmp 0]⟩
def kf57 : KFn := ⟨fun z => (kS (kR (kP 0 (yC (.ptr none)) kD))
 (kS (kR (yA 1 (m_build [yH, yF, yI] []) (yA 2 (m_box 201 (.t 1)) (yM 0 2 kD)))) yR)), 3, [.tmp 0]⟩
def kf58 : KFn := ⟨fun z => (kS (kR (yA 5 (m_box 31 (.t 1)) (kP 8 yZ kD)))
 (kS (kS (kR (yM 17 0 (yA 18 (m_nileq 0 false (.t 17)) kD)))
 (kQ J18 (kS (kR (kP 8 yJ1 kD)) yR) yN))
 (kS (kS (kDraw (kP 19 (pM 6 J5) (yM 20 0 (kP 21 (pNil J20) (kP 22 (pO 6 J21) (kP 23 (pL J22) (yM 24 3 (yM 25 0 (kP 26 (pNil J25) (kP 27 (pO 0 J26) (kP 28 (pO 0 J27) (kP 29 (pL J28) (kC z (some 30) 86 [J19, J23, J24, J29] kD)))))))))))) (yM 9 30 kD))
 (kS (kR (yM 31 9 (kP 32 (pB .neq fNeq J31 yI1) kD)))
 (kQ J32 (kS (kR (yM 33 9 (yM 8 33 kD))) yR) yN)))
 (kS (kS (kR (yM 34 2 (kP 35 (pLenS J34) (kP 36 (pO 3 J5) (kP 37 (pL J36) (kP 38 (pB .neq fNeq J35 J37) kD))))))
 (kQ J38 (kS (kR (kP 8 (yC (iI 4)) kD)) yR) yN))
 (kS (kR (kP 39 (pO 2 J5) (kP 40 (pL J39) (kC z (some 41) 87 [J40] (kP 42 (pO 2 J5) (kM none (m_store 1 (.t 42) (.t 41)) kD))))))
 (kS (kDraw (yM 43 0 (yM 44 0 (kP 45 (pNil J44) (kP 46 (pO 6 J45) (kP 47 (pL J46) (kP 48 (pM 6 J5) (yA 49 (m_mkslc 31 1 [yW, yI, yS, yI, yI, yI] [(0, 6, (.t 48))]) (kOld (fun k a aw => iChk k a aw 47 none (.load none (.t 46))) (yA 50 (m_append 31 6 64 (.t 47) (.t 49)) (kP 51 (pNil J43) (kP 52 (pO 6 J51) (kM none (m_store 1 (.t 52) (.t 50)) kD)))))))))))) kD)
 (kS (kDraw (yM 53 0 (kP 54 (pNil J53) (kP 55 (pO 7 J54) (kP 56 (pL J55) (kP 57 (pO 0 J5) (kP 58 (pL J57) (yM 59 2 (kC z (some 60) 71 [J59] (kOld (fun k a aw => iChk k a aw 58 none (.load none (.t 57))) (kOld (fun k a aw => iChk k a aw 56 none (.load none (.t 55))) kD)))))))))) (kM none (m_mapset (.t 56) (.t 58) (.t 60)) kD))
 (kS (kDraw (kP 62 (pO 3 J5) (kP 63 (pL J62) (yM 64 0 (kP 65 (pNil J64) (kP 66 (pO 0 J65) (kP 67 (pO 0 J66) (kP 68 (pL J67) (kC z (some 69) 88 [J63, J68] (yM 61 69 (kP 70 (pExt 0 J61) (kP 71 (pExt 1 J61) (yM 10 70 kD)))))))))))) (yM 11 71 kD))
 (kS (kDraw (yM 72 0 (kP 73 (pNil J72) (kP 74 (pO 9 J73) (kP 75 (pL J74) (kP 76 (pO 0 J5) (kP 77 (pL J76) (yM 78 10 (kC z (some 79) 89 [J75, J77, J78] kD)))))))) kD)
 (kS (kS (kR (yM 80 10 (kP 81 yZ kD)))
 (kO 0 (kLoop (kS (kR (kP 82 (pB .lss fLss J81 J80) kD))
 (kS (kQ J82 yN (kR (kEnd (.exit 0))))
 (kS (kO 1 (kS (kR (yM 83 81 (yM 12 83 kD)))
 (kR (yM 84 0 (kP 85 (pM 6 J5) (yM 86 12 (kC z (some 87) 90 [J84, J85, J86] kD)))))))
 (kR (kP 88 (pB .add fAdd J81 yJ2) (yM 81 88 kD)))))))))
 (kS (kDraw (yM 89 0 (kP 90 (pM 6 J5) (yM 91 10 (yM 92 0 (kP 93 (pNil J92) (kP 94 (pO 10 J93) (kP 95 (pL J94) (yM 97 0 (kP 98 (pNil J97) (kP 99 (pO 11 J98) (kP 100 (pL J99) (kC z (some 96) 93 [J95] (kOld (fun k a aw => iChk k a aw 100 none (.load none (.t 99))) (kOld (fun k a aw => iChk k a aw 90 none (.load (some 6) (.t 5))) (kC z (some 101) 94 [J100] (kOld (fun k a aw => iChk k a aw 90 none (.load (some 6) (.t 5))) (kC z (some 102) 92 [J91, J96, J101] (kOld (fun k a aw => iChk k a aw 90 none (.load (some 6) (.t 5))) (kC z (some 103) 91 [J89, J90, J102] kD))))))))))))))))))) kD)
 (kS (kS (kR (kP 104 (pO 2 J5) (kP 105 (pL J104) (kP 106 (pLenS J105) (kP 107 yZ kD)))))
 (kO 2 (kLoop (kS (kR (kP 108 (pB .lss fLss J107 J106) kD))
 (kS (kQ J108 yN (kR (kEnd (.exit 2))))
 (kS (kO 3 (kS (kR (kP 109 (pIdxS 1 J105 J107) (kP 110 (pL J109) (yM 14 110 kD))))
 (kS (kR (yM 112 0 (kP 113 (pNil J112) (kP 114 (pO 6 J113) (kP 115 (pL J114) (yM 116 14 (kC z (some 117) 95 [J115, J116] (yM 111 117 (kP 118 (pExt 0 J111) (kP 119 (pExt 1 J111) (yM 15 118 (yM 16 119 kD))))))))))))
 (kR (yM 120 0 (kP 121 (pNil J120) (kP 122 (pO 8 J121) (kP 123 (pL J122) (yM 124 14 (yM 125 15 (kC z (some 126) 96 [J123, J124, J125] kD)))))))))))
 (kR (kP 127 (pB .add fAdd J107 yJ2) (yM 107 127 kD)))))))))
 (kS (kR (kP 8 yZ kD)) yR))))))))))))), 128, [.tmp 8]⟩
def kf59 : KFn := ⟨fun z => (kS (kR (yA 3 (m_box 31 (.t 1)) (kP 4 yX kD)))
 (kS (kS (kDraw (yM 10 0 (yA 11 (m_nileq 0 false (.t 10)) (yM 12 11 (yP 12 false 13 (yT 0) (yP 12 false 14 (pNil J13) (yP 12 false 15 (pO 6 J14) (yP 12 false 16 (pL J15) (yP 12 false 17 (pM 6 J3) (yG 12 false (some 18) (kC z (some 18) 97 [J16, J17]) (yP 12 false 19 (pNot J18) (kP 20 (pPick J12 yV1 J19) kD))))))))))) kD)
 (kQ J20 (kS (kR (kP 4 yX kD)) yR) yN))
 (kS (kR (yM 21 0 (kP 22 (pNil J21) (kP 23 (pO 6 J22) (kP 24 (pL J23) (kC z (some 25) 98 [J24] (yM 5 25 kD)))))))
 (kS (kS (kR (kP 26 (pO 2 J3) (kP 27 (pL J26) (kP 28 (pLenS J27) (kP 29 yZ kD)))))
 (kO 0 (kLoop (kS (kR (kP 30 (pB .lss fLss J29 J28) kD))
 (kS (kQ J30 yN (kR (kEnd (.exit 0))))
 (kS (kO 1 (kS (kR (kP 31 (pIdxS 1 J27 J29) (kP 32 (pL J31) (yM 7 32 kD))))
 (kS (kR (yM 34 5 (yM 35 7 (kC z (some 36) 95 [J34, J35] (yM 33 36 (kP 37 (pExt 0 J33) (kP 38 (pExt 1 J33) (yM 8 37 (yM 9 38 kD)))))))))
 (kS (kR (yM 39 9 kD))
 (kQ J39 (kR (yM 40 0 (kP 41 (pNil J40) (kP 42 (pO 5 J41) (kP 43 (pL J42) (yM 44 7 (yM 45 8 (kC z (some 46) 99 [J43, J44, J45] kD)))))))) yN)))))
 (kR (kP 47 (pB .add fAdd J29 yJ2) (yM 29 47 kD)))))))))
 (kS (kR (kP 4 yW1 kD)) yR))))), 48, [.tmp 4]⟩
def kf60 : KFn := ⟨fun z => (kS (kR (yA 2 (m_box 80 (.t 0)) (yA 4 (m_alloc [yS] 52) kD)))
 (kS (kS (kR (kP 12 (pL J2) (yA 13 (m_nileq 0 false (.t 12)) kD)))
 (kQ J13 (kS (kR (kM none (m_store 1 (.t 4) (.c yS)) kD)) yR) yN))
 (kS (kR (kP 14 (pL J2) (yM 15 1 (kP 16 (pNil J14) (kP 17 (pO 12 J16) (kM none (m_store 1 (.t 17) (.t 15)) kD))))))
 (kS (kR (kP 18 (pL J2) (kP 19 (pNil J18) (kP 20 (pO 8 J19) (kP 21 (pL J20) (yM 22 1 (kC z (some 23) 100 [J21, J22] kD)))))))
 (kS (kDraw (kP 24 (pL J2) (kP 25 (pNil J24) (kP 26 (pO 8 J25) (kP 27 (pL J26) (kP 29 (pL J2) (kP 30 (pNil J29) (kP 31 (pO 0 J30) (kP 32 (pO 1 J31) (kP 33 (pL J32) (kC z (some 28) 101 [J27] (kOld (fun k a aw => iChk k a aw 33 none (.load none (.t 32))) (kOld (fun k a aw => iChk k a aw 29 none (.load none (.t 2))) (yA 6 (m_alloc [yI] 3) (kOld (fun k a aw => iChk k a aw 33 none (.load none (.t 32))) (kOld (fun k a aw => iChk k a aw 29 none (.load none (.t 2))) (kOld (fun k a aw => iChk k a aw 27 none (.load none (.t 26))) (kOld (fun k a aw => iChk k a aw 24 none (.load none (.t 2))) (yM 5 28 kD)))))))))))))))))) (kM none (m_store 1 (.t 6) (.t 33)) kD))
 (kS (kR (yA 34 (m_func 102 [] [(.t 2), (.t 4), (.t 6)]) (yM 7 34 kD)))
 (kS (kS (kR (kP 35 (pL J6) (yM 36 5 (kC z (some 37) 105 [J35, J36] (kP 38 (pLenS J37) (kP 39 yZ kD))))))
 (kO 0 (kLoop (kS (kR (kP 40 (pB .lss fLss J39 J38) kD))
 (kS (kQ J40 yN (kR (kEnd (.exit 0))))
 (kS (kO 1 (kS (kR (yM 41 39 (kP 42 (pIdxS 1 J37 J39) (kP 43 (pL J42) (yM 8 41 (yM 9 43 kD))))))
 (kR (yM 44 7 (yM 45 5 (yM 46 8 (kP 47 (pIdxS 3 J45 J46) (kP 48 (pO 0 J47) (kP 49 (pL J48) (yM 50 9 (kCallv z (some 51) (.t 44) [J49, J50] kD)))))))))))
 (kR (kP 52 (pB .add fAdd J39 yJ2) (yM 39 52 kD)))))))))
 (kS (kS (kR (kP 53 (pL J2) (kP 54 (pNil J53) (kP 55 (pO 8 J54) (kP 56 (pL J55) (kC z (some 57) 101 [J56] (kP 58 (pLenS J57) (kP 59 yZ kD))))))))
 (kO 2 (kLoop (kS (kR (kP 60 (pB .lss fLss J59 J58) kD))
 (kS (kQ J60 yN (kR (kEnd (.exit 2))))
 (kS (kO 3 (kS (kR (kP 61 (pIdxS 3 J57 J59) (kP 62 (pM 3 J61) (yA 11 (m_alloc [yW, yI, yI] 222) (kM none (m_store 3 (.t 11) (.t 62)) kD)))))
 (kR (yM 63 7 (kP 64 (pO 0 J11) (kP 65 (pL J64) (kP 66 (pL J6) (kCallv z (some 67) (.t 63) [J65, J66] kD))))))))
 (kR (kP 68 (pB .add fAdd J59 yJ2) (yM 59 68 kD)))))))))
 (kS (kR (kP 69 (pL J4) (kM none (m_store 1 (.t 4) (.t 69)) kD))) yR))))))))), 70, [.cell 4 none]⟩
def kf61 : KFn := ⟨fun z => (kS (kR (yM 10 0 (kP 11 (pNil J10) (kP 12 (pO 11 J11) (kP 13 (pO 0 J12) (kP 14 (pL J13) (kP 15 (pB .add fAdd J14 (gC (.int .u64 (.ofNat 1)))) (kP 16 (pNil J10) (kP 17 (pO 11 J16) (kP 18 (pO 0 J17) (kM none (m_store 1 (.t 18) (.t 15)) kD)))))))))))
 (kS (kR (yM 19 0 (kP 20 (pNil J19) (kP 21 (pO 11 J20) (kP 22 (pO 1 J21) (kP 23 (pL J22) (yM 24 1 (kP 25 (pLenS J24) (kP 26 (pConv .u64 J25) (kP 27 (pB .add fAdd J23 J26) (kP 28 (pNil J19) (kP 29 (pO 11 J28) (kP 30 (pO 1 J29) (kM none (m_store 1 (.t 30) (.t 27)) kD))))))))))))))
 (kS (kR (yM 32 1 (kC z (some 33) 106 [J32] (yM 31 33 (kP 34 (pExt 0 J31) (kP 35 (pExt 1 J31) (yA 4 (m_alloc [yI, yH, yH, yW, yH, yS, (.int .u64 (.ofNat 0)), yW, yW, yH, yH, yW, yH] 66) (kM none (m_store 13 (.t 4) (.t 34)) (yM 5 35 kD)))))))))
 (kS (kR (yM 36 0 (kP 37 (pNil J36) (kP 38 (pO 5 J37) (kP 39 (pL J38) (kC z (some 40) 107 [J39] (kP 41 (pLenS J40) (kP 42 yZ kD))))))))
 (kO 0 (kLoop (kS (kR (kP 43 (pB .lss fLss J42 J41) kD))
 (kS (kQ J43 yN (kR (kEnd (.exit 0))))
 (kS (kO 1 (kS (kR (kP 44 (pIdxS 6 J40 J42) (kP 45 (pM 6 J44) (yA 7 (m_alloc [yW, yI, yS, yI, yI, yI] 31) (kM none (m_store 6 (.t 7) (.t 45)) kD)))))
 (kS (kDraw (kP 47 (pO 3 J7) (kP 48 (pL J47) (yM 49 0 (kP 50 (pNil J49) (kP 51 (pO 0 J50) (kP 52 (pO 0 J51) (kP 53 (pL J52) (kC z (some 54) 88 [J48, J53] (yM 46 54 (kP 55 (pExt 0 J46) (kP 56 (pExt 1 J46) (yM 8 55 kD)))))))))))) (yM 9 56 kD))
 (kS (kR (kP 57 (pO 0 J7) (kP 58 (pL J57) (kP 59 (pO 1 J4) (kP 60 (pO 2 J59) (kP 61 (pL J60) (kP 62 (pB .eql fEql J58 J61) (yM 63 62 (yP 63 true 64 (pO 1 J4) (yP 63 true 65 (pO 3 J64) (yP 63 true 66 (pL J65) (yP 63 true 67 (pConv .i64 J66) (yP 63 true 68 (yT 8) (yP 63 true 69 (pB .geq fGeq J67 J68) (kP 70 (pPick J63 J69 yF1) kD)))))))))))))))
 (kQ J70 (kR (yM 71 0 (kP 72 (pNil J71) (kP 73 (pO 11 J72) (kP 74 (pO 3 J73) (kP 75 (pL J74) (kP 76 (pB .add fAdd J75 (gC (.int .u64 (.ofNat 1)))) (kP 77 (pNil J71) (kP 78 (pO 11 J77) (kP 79 (pO 3 J78) (kM none (m_store 1 (.t 79) (.t 76)) kD))))))))))) yN)))))
 (kR (kP 80 (pB .add fAdd J42 yJ2) (yM 42 80 kD)))))))))))), 81, []⟩
def kf62 : KFn := ⟨fun z => (kS (kR (kP 4 yX kD))
 (kS (kS (kR (yM 5 0 (yA 6 (m_nileq 0 false (.t 5)) (yM 7 6 (yP 7 false 8 (yT 0) (yP 7 false 9 (pNil J8) (yP 7 false 10 (pO 0 J9) (yP 7 false 11 (pL J10) (yP 7 false 12 (pLenS J11) (yP 7 false 13 (pB .geq fGeq J12 (gC (iI 400))) (kP 14 (pPick J7 yV1 J13) kD)))))))))))
 (kQ J14 (kS (kR (kP 4 yX kD)) yR) yN))
 (kS (kDraw (yM 15 0 (yM 16 0 (kP 17 (pNil J16) (kP 18 (pO 0 J17) (kP 19 (pL J18) (yM 20 1 (kC z (some 21) 71 [J20] (kOld (fun k a aw => iChk k a aw 19 none (.load none (.t 18))) (yA 22 (m_mkslc 37 1 [yS] [(0, 1, (.t 21))]) (kOld (fun k a aw => iChk k a aw 19 none (.load none (.t 18))) (yA 23 (m_append 37 1 24 (.t 19) (.t 22)) (kP 24 (pNil J15) (kP 25 (pO 0 J24) (kM none (m_store 1 (.t 25) (.t 23)) kD)))))))))))))) kD)
 (kS (kR (kP 4 yW1 kD)) yR)))), 26, [.tmp 4]⟩
def kf63 : KFn := ⟨fun z => (kS (kR (kP 4 yY (kP 5 yY kD)))
 (kS (kS (kR (yM 8 0 (yA 9 (m_nileq 0 false (.t 8)) kD)))
 (kQ J9 (kS (kR (kP 4 yY (kP 5 yY kD))) yR) yN))
 (kS (kS (kDraw (yM 10 0 (kP 11 (pNil J10) (kP 12 (pO 6 J11) (kP 13 (pL J12) (yM 14 1 (yM 15 0 (kP 19 yZ (kC z (some 16) 109 [J15] (kOld (fun k a aw => iChk k a aw 13 none (.load none (.t 12))) (kC z (some 17) 108 [J13, J14, J16] (kP 18 (pLenS J17) kD))))))))))) kD)
 (kO 0 (kLoop (kS (kR (kP 20 (pB .lss fLss J19 J18) kD))
 (kS (kQ J20 yN (kR (kEnd (.exit 0))))
 (kS (kO 1 (kS (kR (kP 21 (pIdxS 4 J17 J19) (kP 22 (pM 4 J21) (yA 7 (m_alloc [yI, yW, yI, yS] 42) (kM none (m_store 4 (.t 7) (.t 22)) kD)))))
 (kS (kS (kR (kP 23 (pO 0 J7) (kP 24 (pL J23) (kP 25 (pB .eql fEql J24 yJ2) kD))))
 (kQ J25 (kDraw (yM 27 0 (kP 28 (pNil J27) (kP 29 (pO 5 J28) (kP 30 (pL J29) (kP 31 (pO 1 J7) (kP 32 (pL J31) (kC z (some 33) 110 [J30, J32] (yM 26 33 (kP 34 (pExt 0 J26) (kP 35 (pExt 1 J26) (kP 36 (pO 3 J7) (kM none (m_store 1 (.t 36) (.t 34)) kD)))))))))))) kD) (kR (yM 37 5 (kP 38 (pO 1 J7) (kP 39 (pL J38) (yA 40 (m_build [yI, yH, yH, yW, yH, yS, (.int .u64 (.ofNat 0)), yW, yW, yH, yH, yW, yH] [(0, 1, (.c (iI 4))), (11, 1, (.t 39))]) (kC z (some 41) 111 [J40] (yA 42 (m_mkslc 37 1 [yS] [(0, 1, (.t 41))]) (yA 43 (m_append 37 1 24 (.t 37) (.t 42)) (yM 5 43 kD)))))))))))
 (kS (kDraw (yM 44 0 (kP 45 (pNil J44) (kP 46 (pO 5 J45) (kP 47 (pL J46) (kP 48 (pO 1 J7) (kP 49 (pL J48) (kC z (some 50) 112 [J47, J49] kD))))))) kD)
 (kR (yM 51 4 (kP 52 (pM 4 J7) (yA 53 (m_mkslc 42 1 [yI, yW, yI, yS] [(0, 4, (.t 52))]) (yA 54 (m_append 42 4 48 (.t 51) (.t 53)) (yM 4 54 kD))))))))))
 (kR (kP 55 (pB .add fAdd J19 yJ2) (yM 19 55 kD)))))))))
 (kS (kS (kR (yM 56 1 (yM 57 0 (kP 58 (pNil J57) (kP 59 (pO 0 J58) (kP 60 (pO 4 J59) (kP 61 (pL J60) (kP 62 (pB .rem (iopF .rem) J56 J61) (kP 63 (pB .eql fEql J62 yI1) kD)))))))))
 (kQ J63 (kR (yM 64 5 (yM 65 0 (kC z (some 66) 113 [J65] (yA 67 (m_append 37 1 24 (.t 64) (.t 66)) (yM 5 67 kD)))))) yN))
 (kS (kR (yM 68 4 (yM 69 5 (yM 4 68 (yM 5 69 kD))))) yR))))), 70, [.tmp 4, .tmp 5]⟩
def kf64 : KFn := ⟨fun z => (kS (kR (kP 4 yY (kP 5 yX kD)))
 (kS (kR (yM 9 0 (yM 10 1 (kC z (some 11) 37 [J9, J10] (yM 8 11 (kP 12 (pExt 0 J8) (kP 13 (pExt 1 J8) (yM 6 12 (yM 7 13 kD)))))))))
 (kS (kS (kR (yM 14 7 kD))
 (kQ J14 (kR (yM 15 0 (yM 16 0 (kP 17 (pNil J16) (kP 18 (pO 0 J17) (kP 19 (pL J18) (yM 20 1 (yM 21 1 (kP 22 (pB .add fAdd J21 yJ2) (kC z (some 23) 114 [J19, J20, J22] (kP 24 (pNil J15) (kP 25 (pO 0 J24) (kM none (m_store 1 (.t 25) (.t 23)) kD))))))))))))) yN))
 (kS (kR (yM 26 6 (yM 27 7 (yM 4 26 (yM 5 27 kD))))) yR)))), 28, [.tmp 4, .tmp 5]⟩
def kf65 : KFn := ⟨fun z => (kS (kR (kP 6 yZ kD))
 (kS (kS (kR (yM 14 0 (yA 15 (m_nileq 0 false (.t 14)) kD)))
 (kQ J15 (kS (kR (kP 6 yJ1 kD)) yR) yN))
 (kS (kR (yM 17 0 (yM 18 1 (kC z (some 19) 115 [J17, J18] (yM 16 19 (kP 20 (pExt 0 J16) (kP 21 (pExt 1 J16) (kP 22 (pExt 2 J16) (yA 7 (m_alloc [yH, yH, yW, yH, yS] 61) (yA 8 (m_alloc [yW, yI, yS, yI, yI, yI] 31) (kM none (m_store 5 (.t 7) (.t 20)) (kM none (m_store 6 (.t 8) (.t 21)) (yM 9 22 kD)))))))))))))
 (kS (kS (kR (yM 23 9 (kP 24 (pB .neq fNeq J23 yI1) kD)))
 (kQ J24 (kS (kR (yM 25 0 (kP 26 (pNil J25) (kP 27 (pO 9 J26) (kP 28 (pL J27) (kP 29 (pB .add fAdd J28 (gC (.int .u64 (.ofNat 1)))) (kP 30 (pNil J25) (kP 31 (pO 9 J30) (kM none (m_store 1 (.t 31) (.t 29)) kD)))))))))
 (kS (kR (yM 32 9 (yM 6 32 kD))) yR)) yN))
 (kS (kDraw (yM 33 0 (kP 34 (pNil J33) (kP 35 (pO 7 J34) (kP 36 (pL J35) (kP 37 (pO 0 J7) (kP 38 (pL J37) (kC z (some 39) 116 [J36, J38] kD))))))) kD)
 (kS (kDraw (yM 40 0 (kP 41 (pNil J40) (kP 42 (pO 8 J41) (kP 43 (pL J42) (kP 44 (pO 1 J7) (kP 45 (pL J44) (yM 46 2 (kC z (some 47) 117 [J43, J45, J46] kD)))))))) kD)
 (kS (kS (kDraw (yM 48 0 (kP 49 (pNil J48) (kP 50 (pO 6 J49) (kP 51 (pL J50) (kP 52 (pO 0 J8) (kP 53 (pL J52) (kC z (some 54) 118 [J51, J53] (kP 55 (pB .eql fEql J54 yI1) kD)))))))) kD)
 (kQ J55 (kS (kDraw (yM 57 0 (kP 58 (pNil J57) (kP 59 (pO 6 J58) (kP 60 (pL J59) (kP 62 (pO 0 J8) (kP 63 (pL J62) (kC z (some 61) 98 [J60] (kOld (fun k a aw => iChk k a aw 63 none (.load none (.t 62))) (kC z (some 64) 95 [J61, J63] (yM 56 64 (kP 65 (pExt 0 J56) (kP 66 (pExt 1 J56) (yM 10 65 kD))))))))))))) (yM 11 66 kD))
 (kS (kDraw (yM 68 0 (kP 69 (pNil J68) (kP 70 (pO 5 J69) (kP 71 (pL J70) (kP 72 (pM 6 J8) (yM 73 10 (kP 74 (pO 3 J7) (kP 75 (pL J74) (kP 76 (pConv .i64 J75) (kP 77 (pO 4 J7) (kP 78 (pL J77) (kC z (some 79) 119 [J71, J72, J73, J76, J78] (yM 67 79 (kP 80 (pExt 0 J67) (kP 81 (pExt 1 J67) (yM 12 80 kD)))))))))))))))) (yM 13 81 kD))
 (kR (yM 82 0 (kP 83 (pNil J82) (kP 84 (pO 10 J83) (kP 85 (pL J84) (yM 86 13 (kP 87 (pLenS J86) (kP 88 (pConv .u64 J87) (kP 89 (pB .add fAdd J85 J88) (kP 90 (pNil J82) (kP 91 (pO 10 J90) (kM none (m_store 1 (.t 91) (.t 89)) kD)))))))))))))) yN))
 (kS (kR (kP 6 yZ kD)) yR)))))))), 92, [.tmp 6]⟩
def kf68 : KFn := ⟨fun z => (kS (kR (kP 4 yX kD))
 (kS (kS (kR (yM 5 0 (yM 6 1 (kC z (some 7) 75 [J5, J6] (kP 8 (pNot J7) (yM 9 8 (yP 9 false 10 (yT 0) (yP 9 false 11 (pNil J10) (yP 9 false 12 (pO 0 J11) (yP 9 false 13 (pL J12) (yP 9 false 14 (pLenS J13) (yP 9 false 15 (pB .geq fGeq J14 (gC (iI 400))) (kP 16 (pPick J9 yV1 J15) kD)))))))))))))
 (kQ J16 (kS (kR (kP 4 yX kD)) yR) yN))
 (kS (kDraw (yM 17 0 (yM 18 0 (kP 19 (pNil J18) (kP 20 (pO 0 J19) (kP 21 (pL J20) (yM 22 1 (yM 23 0 (kP 24 (pNil J23) (kP 25 (pO 0 J24) (kP 26 (pL J25) (yM 27 1 (kP 28 (pIdxS 1 J26 J27) (kP 29 (pL J28) (kC z (some 30) 71 [J29] (kOld (fun k a aw => iChk k a aw 21 none (.load none (.t 20))) (yA 31 (m_mkslc 37 1 [yS] [(0, 1, (.t 30))]) (kOld (fun k a aw => iChk k a aw 21 none (.load none (.t 20))) (kC z (some 32) 123 [J21, J22, J31] (kP 33 (pNil J17) (kP 34 (pO 0 J33) (kM none (m_store 1 (.t 34) (.t 32)) kD))))))))))))))))))))) kD)
 (kS (kR (kP 4 yW1 kD)) yR)))), 35, [.tmp 4]⟩
def kf71 : KFn := ⟨fun z => (kS (kR (kP 2 yY kD))
 (kS (kS (kR (yM 3 0 (yA 4 (m_nileq 1 false (.t 3)) kD)))
 (kQ J4 (kS (kR (kP 2 yY kD)) yR) yN))
 (kS (kR (yA 5 (m_mkslc 5 0 [] []) (yM 6 0 (yA 7 (m_append 5 1 1 (.t 5) (.t 6)) (yM 2 7 kD))))) yR))), 8, [.tmp 2]⟩
def kf75 : KFn := ⟨fun z => (kS (kR (kP 4 yX kD))
 (kS (kR (yM 5 0 (yA 6 (m_nileq 0 true (.t 5)) (yM 7 6 (yP 7 true 8 (yT 1) (yP 7 true 9 (pB .geq fGeq J8 yI1) (kP 10 (pPick J7 J9 yF1) (yM 11 10 (yP 11 true 12 (yT 1) (yP 11 true 13 (yT 0) (yP 11 true 14 (pNil J13) (yP 11 true 15 (pO 0 J14) (yP 11 true 16 (pL J15) (yP 11 true 17 (pLenS J16) (yP 11 true 18 (pB .lss fLss J12 J17) (kP 19 (pPick J11 J18 yF1) (yM 4 19 kD))))))))))))))))) yR)), 20, [.tmp 4]⟩
def kf83 : KFn := ⟨fun z => (kS (kR (kP 6 yX kD))
 (kS (kR (yM 7 0 (yM 8 1 (kP 9 (pB .geq fGeq J7 J8) (yM 10 9 (yP 10 true 11 (yT 0) (yP 10 true 12 (yT 2) (yP 10 true 13 (pB .leq fLeq J11 J12) (kP 14 (pPick J10 J13 yF1) (yM 6 14 kD)))))))))) yR)), 15, [.tmp 6]⟩
def kf84 : KFn := ⟨fun z => (kS (kR (kP 2 yZ kD))
 (kS (kR (yM 3 0 (kP 4 (pB .add fAdd J3 (gC (iI 15))) (yM 2 4 kD)))) yR)), 5, [.tmp 2]⟩
def kf85 : KFn := ⟨fun z => (kS (kR (kP 0 (yC (.ptr none)) kD))
 (kS (kR (yA 1 (m_build [(.int .u64 (.ofNat 0)), yF] []) (yA 2 (m_box 267 (.t 1)) (yM 0 2 kD)))) yR)), 3, [.tmp 0]⟩
def kf86 : KFn := ⟨fun z => (kS (kR (yA 4 (m_box 31 (.t 0)) (yA 8 (m_alloc [yI] 32) kD)))
 (kS (kR (yA 13 (m_func 139 [] [(.t 8)]) (kOld (fun k a aw => iDefer k a aw none (.t 13) []) kD)))
 (kS (kR (kP 14 (pO 1 J4) (kP 15 (pL J14) (kP 16 (pB .lss fLss J15 yJ2) (yM 17 16 (yP 17 false 18 (pO 1 J4) (yP 17 false 19 (pL J18) (yP 17 false 20 (pB .gtr fGtr J19 (gC (iI 3))) (kP 21 (pPick J17 yV1 J20) (yM 22 21 (yP 22 false 23 (pO 4 J4) (yP 22 false 24 (pL J23) (yP 22 false 25 (pB .lss fLss J24 yI1) (kP 26 (pPick J22 yV1 J25) (yM 27 26 (yP 27 false 28 (pO 5 J4) (yP 27 false 29 (pL J28) (yP 27 false 30 (pB .gtr fGtr J29 (gC (iI 1099511627776))) (kP 31 (pPick J27 yV1 J30) (yM 32 31 (yP 32 false 33 (pO 4 J4) (yP 32 false 34 (pL J33) (yP 32 false 35 (pO 5 J4) (yP 32 false 36 (pL J35) (yP 32 false 37 (pB .gtr fGtr J34 J36) (kP 38 (pPick J32 yV1 J37) (kC z (some 39) 140 [J38, yJ2] kD)))))))))))))))))))))))))))
 (kS (kR (kP 41 (pO 3 J4) (kP 42 (pL J41) (yM 43 3 (kC z (some 44) 88 [J42, J43] (yM 40 44 (kP 45 (pExt 0 J40) (kP 46 (pExt 1 J40) (yM 9 45 (yM 10 46 kD))))))))))
 (kS (kR (yM 47 10 (kP 48 (pNot J47) (kC z (some 49) 140 [J48, (gC (iI 4))] kD))))
 (kS (kS (kR (yM 50 1 (kP 51 (pLenS J50) (yM 11 51 kD))))
 (kS (kR (yM 52 11 (kP 53 (pB .gtr fGtr J52 yI1) kD)))
 (kQ J53 (kS (kR (yM 54 1 (yM 55 11 (kP 56 (pB .sub fSub J55 yJ2) (kP 57 (pIdxS 6 J54 J56) (kP 58 (pM 6 J57) (yA 12 (m_alloc [yW, yI, yS, yI, yI, yI] 31) (kM none (m_store 6 (.t 12) (.t 58)) kD))))))))
 (kR (kP 59 (pO 0 J4) (kP 60 (pL J59) (kP 61 (pO 0 J12) (kP 62 (pL J61) (kP 63 (pB .leq fLeq J60 J62) (yM 64 63 (yP 64 false 65 (pO 4 J4) (yP 64 false 66 (pL J65) (yP 64 false 67 (pO 4 J12) (yP 64 false 68 (pL J67) (yP 64 false 69 (pB .lss fLss J66 J68) (kP 70 (pPick J64 yV1 J69) (yM 71 70 (yP 71 false 72 (pO 5 J4) (yP 71 false 73 (pL J72) (yP 71 false 74 (pO 5 J12) (yP 71 false 75 (pL J74) (yP 71 false 76 (pB .lss fLss J73 J75) (kP 77 (pPick J71 yV1 J76) (kC z (some 78) 140 [J77, (gC (iI 5))] kD)))))))))))))))))))))) yN)))
 (kS (kR (kP 79 (pM 6 J4) (yM 80 1 (kC z (some 81) 141 [J79, J80] kD))))
 (kS (kR (kP 82 (pO 5 J4) (kP 83 (pL J82) (yM 84 2 (kP 85 (pB .leq fLeq J83 J84) (kC z (some 86) 140 [J85, (gC (iI 7))] kD))))))
 (kS (kR (yM 87 1 (kP 88 (pLenS J87) (kP 89 (pB .geq fGeq J88 (gC (iI 100))) (kC z (some 90) 140 [J89, (gC (iI 8))] kD)))))
 (kS (kR (kM none (m_store 1 (.t 8) (.c yI)) kD)) yR)))))))))), 91, [.cell 8 none]⟩
def kf87 : KFn := ⟨fun z => (kS (kR (kP 2 yY kD))
 (kS (kS (kR (yM 3 0 (yA 4 (m_nileq 1 false (.t 3)) kD)))
 (kQ J4 (kS (kR (kP 2 yY kD)) yR) yN))
 (kS (kR (yA 5 (m_mkslc 28 0 [] []) (yM 6 0 (yA 7 (m_append 28 1 4 (.t 5) (.t 6)) (yM 2 7 kD))))) yR))), 8, [.tmp 2]⟩
def kf88 : KFn := ⟨fun z => (kS (kR (kP 4 yZ (kP 5 yX kD)))
 (kS (kS (kR (yM 6 1 (kP 7 (pB .lss fLss J6 yJ2) (yM 8 7 (yP 8 false 9 (yT 1) (yP 8 false 10 (pB .gtr fGtr J9 (gC (iI 64))) (kP 11 (pPick J8 yV1 J10) (yM 12 11 (yP 12 false 13 (yT 0) (yP 12 false 14 (pB .lss fLss J13 yJ2) (kP 15 (pPick J12 yV1 J14) (yM 16 15 (yP 16 false 17 (yT 0) (yP 16 false 18 (yT 1) (yP 16 false 19 (pB .mul fMul (gC (iI 32)) J18) (yP 16 false 20 (pB .gtr fGtr J17 J19) (kP 21 (pPick J16 yV1 J20) kD)))))))))))))))))
 (kQ J21 (kS (kR (kP 4 yZ (kP 5 yX kD))) yR) yN))
 (kS (kR (yM 22 0 (yM 23 1 (kP 24 (pB .add fAdd J22 J23) (kP 25 (pB .sub fSub J24 yJ2) (yM 26 1 (kP 27 (pB .quo (iopF .quo) J25 J26) (yM 4 27 (kP 5 yW1 kD))))))))) yR))), 28, [.tmp 4, .tmp 5]⟩
def kf89 : KFn := ⟨fun z => (kS (kR (kP 6 yX kD))
 (kS (kS (kR (yM 10 0 (yM 11 1 (kC z (some 12) 142 [J10, J11] (yM 9 12 (kP 13 (pExt 0 J9) (kP 14 (pExt 1 J9) (yA 7 (m_alloc [yI, yI] 272) (kM none (m_store 2 (.t 7) (.t 13)) (yM 8 14 kD))))))))))
 (kS (kR (yM 15 0 (yA 16 (m_nileq 0 false (.t 15)) (yM 17 16 (yP 17 false 18 (yT 8) (kP 19 (pPick J17 yV1 J18) (yM 20 19 (yP 20 false 21 (yT 2) (yP 20 false 22 (pB .lss fLss J21 yJ2) (kP 23 (pPick J20 yV1 J22) (yM 24 23 (yP 24 false 25 (yT 2) (yP 24 false 26 (pB .gtr fGtr J25 (gC (iI 32))) (kP 27 (pPick J24 yV1 J26) kD))))))))))))))
 (kQ J27 (kS (kR (kP 6 yX kD)) yR) yN)))
 (kS (kR (yM 28 0 (kP 29 (pNil J28) (kP 30 (pO 0 J29) (kP 31 (pL J30) (yM 32 1 (yM 33 2 (yM 34 2 (kP 35 (pB .add fAdd J34 (gC (iI 64))) (yA 36 (m_build [yI, yI] [(0, 1, (.t 33)), (1, 1, (.t 35))]) (kM none (m_mapset (.t 31) (.t 32) (.t 36)) kD)))))))))))
 (kS (kR (kP 6 yW1 kD)) yR)))), 37, [.tmp 6]⟩
def kf90 : KFn := ⟨fun z => (kS (kR (yA 4 (m_box 31 (.t 1)) kD))
 (kS (kDraw (yM 9 0 (kP 10 (pNil J9) (kP 11 (pO 6 J10) (kP 12 (pL J11) (kP 13 (pO 0 J4) (kP 14 (pL J13) (kC z (some 15) 95 [J12, J14] (yM 8 15 (kP 16 (pExt 0 J8) (kP 17 (pExt 1 J8) (yM 6 16 kD))))))))))) (yM 7 17 kD))
 (kDraw (yM 18 0 (kP 19 (pNil J18) (kP 20 (pO 8 J19) (kP 21 (pL J20) (kP 22 (pO 0 J4) (kP 23 (pL J22) (yM 24 2 (yM 25 6 (yM 26 0 (kP 27 (pNil J26) (kP 28 (pO 0 J27) (kP 29 (pO 0 J28) (kP 30 (pL J29) (kP 32 (pO 5 J4) (kP 33 (pL J32) (kC z (some 31) 84 [J30] (kOld (fun k a aw => iChk k a aw 33 none (.load none (.t 32))) (kOld (fun k a aw => iChk k a aw 23 none (.load none (.t 22))) (kOld (fun k a aw => iChk k a aw 21 none (.load none (.t 20))) (yA 34 (m_build [yW, yI, yI, yI, yI] [(0, 1, (.t 23)), (1, 1, (.t 24)), (2, 1, (.t 25)), (3, 1, (.t 31)), (4, 1, (.t 33))]) (kC z (some 35) 143 [J21, J34] kD))))))))))))))))))))) kD))), 36, []⟩
def kf91 : KFn := ⟨fun z => (kS (kR (yA 4 (m_box 31 (.t 1)) kD))
 (kO 0 (kLoop (kS (kS (kR (yM 8 2 (kP 9 (pB .gtr fGtr J8 yI1) kD)))
 (kQ J9 yN (kR (kEnd (.exit 0)))))
 (kS (kO 1 (kS (kDraw (yM 13 0 (kP 14 (pNil J13) (kP 15 (pO 9 J14) (kP 16 (pL J15) (kP 17 (pO 0 J4) (kP 18 (pL J17) (kC z (some 19) 144 [J16, J18] (yM 12 19 (kP 20 (pExt 0 J12) (kP 21 (pExt 1 J12) (yM 6 20 kD))))))))))) (yM 7 21 kD))
 (kS (kS (kR (yM 22 7 (kP 23 (pNot J22) kD)))
 (kQ J23 yR yN))
 (kR (yM 24 0 (kP 25 (pM 6 J4) (yM 26 6 (kC z (some 27) 90 [J24, J25, J26] kD))))))))
 (kR (yM 10 2 (kP 11 (pB .sub fSub J10 yJ2) (yM 2 11 kD))))))))), 28, []⟩
def kf92 : KFn := ⟨fun z => (kS (kR (kP 6 yZ kD))
 (kS (kO 0 (kS (kR (yM 10 0 (kP 11 (pB .leq fLeq J10 yI1) (yM 12 11 (yP 12 false 13 (yT 1) (yP 12 false 14 (pB .leq fLeq J13 yI1) (kP 15 (pPick J12 yV1 J14) (yM 9 15 kD))))))))
 (kQ J9 (kS (kR (kP 6 yZ kD)) yR) (kS (kR (yM 17 1 (kP 18 (pB .geq fGeq J17 (gC (iI 65536))) (yM 16 18 kD))))
 (kQ J16 (kS (kR (kP 6 (yC (iI 64)) kD)) yR) yN)))))
 (kS (kR (yM 19 0 (yA 20 (m_mn (.t 19) (.c (iI 32))) (yM 21 1 (kP 22 (pB .mul fMul J20 J21) (yM 23 1 (kP 24 (pB .sub fSub (gC (iI 65536)) J23) (kC z (some 25) 145 [J22, J24] (yM 7 25 kD)))))))))
 (kS (kR (yM 26 2 (yA 27 (m_mx (.t 26) (.c yI)) (kC z (some 28) 145 [J27, (gC (iI 16))] (yA 29 (m_mn (.t 28) (.c (iI 64))) (yM 8 29 kD))))))
 (kS (kR (yM 30 7 (yM 31 8 (kP 32 (pB .add fAdd J30 J31) (yA 33 (m_mn (.t 32) (.c (iI 64))) (yM 6 33 kD)))))) yR))))), 34, [.tmp 6]⟩
def kf93 : KFn := ⟨fun z => (kS (kR (kP 2 yZ kD))
 (kS (kS (kR (yM 3 0 (yA 4 (m_nileq 0 false (.t 3)) kD)))
 (kQ J4 (kS (kR (kP 2 yZ kD)) yR) yN))
 (kS (kR (yM 5 0 (kP 6 (pNil J5) (kP 7 (pO 0 J6) (kP 8 (pL J7) (kP 9 (pConv .i64 J8) (yM 2 9 kD))))))) yR))), 10, [.tmp 2]⟩
def kf94 : KFn := ⟨fun z => (kS (kR (kP 2 yZ kD))
 (kS (kS (kR (yM 3 0 (yA 4 (m_nileq 0 false (.t 3)) kD)))
 (kQ J4 (kS (kR (kP 2 yZ kD)) yR) yN))
 (kS (kR (yM 5 0 (kP 6 (pNil J5) (kP 7 (pO 0 J6) (kP 8 (pL J7) (yM 2 8 kD)))))) yR))), 9, [.tmp 2]⟩
def kf95 : KFn := ⟨fun z => (kS (kR (yA 3 (m_box 28 (.t 1)) (kP 4 yZ (kP 5 yX kD))))
 (kS (kR (yM 7 0 (yA 8 (m_func 147 [] [(.t 3)]) (kC z (some 9) 146 [J7, J8] (yM 6 9 kD)))))
 (kS (kS (kR (yM 10 6 (kP 11 (pB .lss fLss J10 yI1) kD)))
 (kQ J11 (kS (kR (kP 4 yZ (kP 5 yX kD))) yR) yN))
 (kS (kS (kR (yM 12 0 (yM 13 6 (kP 14 (pIdxS 6 J12 J13) (kP 15 (pO 1 J14) (kP 16 (pL J15) kD))))))
 (kO 0 (kS (kR (kP 18 (pB .eql fEql J16 yJ2) (yM 17 18 kD)))
 (kQ J17 (kS (kR (kP 4 yZ (kP 5 yW1 kD))) yR) (kS (kR (kP 20 (pB .eql fEql J16 (gC (iI 2))) (yM 19 20 kD)))
 (kQ J19 (kS (kR (kP 4 yJ1 (kP 5 yW1 kD))) yR) (kS (kR (kP 22 (pB .eql fEql J16 (gC (iI 3))) (yM 21 22 kD)))
 (kQ J21 (kS (kS (kR (yM 23 0 (yA 24 (m_func 149 [] [(.t 3)]) (kC z (some 25) 148 [J23, J24] kD))))
 (kQ J25 (kS (kR (kP 4 (yC (iI 2)) (kP 5 yW1 kD))) yR) yN))
 (kS (kR (kP 4 (yC (iI 3)) (kP 5 yW1 kD))) yR)) yN))))))))
 (kS (kR (kP 4 yZ (kP 5 yX kD))) yR))))), 26, [.tmp 4, .tmp 5]⟩
def kf97 : KFn := ⟨fun z => (kS (kR (yA 2 (m_box 135 (.t 0)) (yA 3 (m_box 31 (.t 1)) (kP 4 yX kD))))
 (kS (kS (kR (kP 6 (pL J2) (yA 7 (m_nileq 0 false (.t 6)) kD)))
 (kQ J7 (kS (kR (kP 4 yX kD)) yR) yN))
 (kS (kS (kR (kP 8 (pL J2) (kP 9 (pNil J8) (kP 10 (pO 0 J9) (kP 11 (pL J10) (kP 12 (pLenS J11) (yM 5 12 kD)))))))
 (kS (kDraw (yM 13 5 (kP 14 (pB .gtr fGtr J13 yI1) (yM 15 14 (yP 15 true 16 (pO 0 J3) (yP 15 true 17 (pL J16) (yP 15 true 18 (pL J2) (yP 15 true 19 (pNil J18) (yP 15 true 20 (pO 0 J19) (yP 15 true 21 (pL J20) (yP 15 true 22 (yT 5) (yP 15 true 23 (pB .sub fSub J22 yJ2) (yP 15 true 24 (pIdxS 6 J21 J23) (yP 15 true 25 (pO 0 J24) (yP 15 true 26 (pL J25) (yP 15 true 27 (pB .leq fLeq J17 J26) (yP 15 true 28 (yT 27) (yP 28 false 29 (pO 5 J3) (yP 28 false 30 (pL J29) (yP 28 false 31 (pL J2) (yP 28 false 32 (pNil J31) (yP 28 false 33 (pO 0 J32) (yP 28 false 34 (pL J33) (yP 28 false 35 (yT 5) (yP 28 false 36 (pB .sub fSub J35 yJ2) (yP 28 false 37 (pIdxS 6 J34 J36) (yP 28 false 38 (pO 5 J37) (yP 28 false 39 (pL J38) (yP 28 false 40 (pB .lss fLss J30 J39) (yP 15 true 41 (pPick J28 yV1 J40) (kP 42 (pPick J15 J41 yF1) kD)))))))))))))))))))))))))))))) kD)
 (kQ J42 (kS (kR (kP 4 yX kD)) yR) yN)))
 (kS (kS (kR (kP 43 (pO 2 J3) (kP 44 (pL J43) (yA 45 (m_func 152 [] [(.t 2)]) (kC z (some 46) 151 [J44, J45] kD)))))
 (kQ J46 (kS (kR (kP 4 yX kD)) yR) yN))
 (kS (kDraw (kP 47 (pL J2) (kP 48 (pL J2) (kP 49 (pNil J48) (kP 50 (pO 0 J49) (kP 51 (pL J50) (kP 52 (pM 6 J3) (kC z (some 53) 154 [J52] (kOld (fun k a aw => iChk k a aw 51 none (.load none (.t 50))) (kOld (fun k a aw => iChk k a aw 48 none (.load none (.t 2))) (kOld (fun k a aw => iChk k a aw 47 none (.load none (.t 2))) (yA 54 (m_mkslc 31 1 [yW, yI, yS, yI, yI, yI] [(0, 6, (.t 53))]) (kOld (fun k a aw => iChk k a aw 51 none (.load none (.t 50))) (kOld (fun k a aw => iChk k a aw 48 none (.load none (.t 2))) (kOld (fun k a aw => iChk k a aw 47 none (.load none (.t 2))) (yA 55 (m_append 31 6 64 (.t 51) (.t 54)) (kOld (fun k a aw => iChk k a aw 47 none (.load none (.t 2))) (kP 56 (pNil J47) (kP 57 (pO 0 J56) (kM none (m_store 1 (.t 57) (.t 55)) kD))))))))))))))))))) kD)
 (kS (kR (kP 4 yW1 kD)) yR)))))), 58, [.tmp 4]⟩
def kf98 : KFn := ⟨fun z => (kS (kR (kP 2 yY kD))
 (kS (kS (kR (yM 5 0 (yA 6 (m_nileq 0 false (.t 5)) kD)))
 (kQ J6 (kS (kR (kP 2 yY kD)) yR) yN))
 (kS (kS (kR (yM 7 0 (kP 8 (pNil J7) (kP 9 (pO 0 J8) (kP 10 (pL J9) (kP 11 (pLenS J10) (kP 12 yZ kD)))))))
 (kO 0 (kLoop (kS (kR (kP 13 (pB .lss fLss J12 J11) kD))
 (kS (kQ J13 yN (kR (kEnd (.exit 0))))
 (kS (kO 1 (kS (kR (kP 14 (pIdxS 6 J10 J12) (kP 15 (pM 6 J14) (yA 4 (m_alloc [yW, yI, yS, yI, yI, yI] 31) (kM none (m_store 6 (.t 4) (.t 15)) kD)))))
 (kR (yM 16 2 (kP 17 (pM 6 J4) (kC z (some 18) 154 [J17] (yA 19 (m_mkslc 31 1 [yW, yI, yS, yI, yI, yI] [(0, 6, (.t 18))]) (yA 20 (m_append 31 6 64 (.t 16) (.t 19)) (yM 2 20 kD)))))))))
 (kR (kP 21 (pB .add fAdd J12 yJ2) (yM 12 21 kD)))))))))
 (kS (kR (yM 22 2 (yM 2 22 kD))) yR)))), 23, [.tmp 2]⟩
def kf100 : KFn := ⟨fun z => (kS (kR (yA 3 (m_box 2 (.t 1)) (kP 4 yY kD)))
 (kS (kR (yM 5 0 (yA 6 (m_func 157 [] [(.t 3)]) (kC z (some 7) 156 [J5, J6] (yM 4 7 kD))))) yR)), 8, [.tmp 4]⟩
def kf101 : KFn := ⟨fun z => (kS (kR (kP 2 yY kD))
 (kS (kS (kR (yM 8 0 (yA 9 (m_nileq 0 false (.t 8)) kD)))
 (kQ J9 (kS (kR (kP 2 yY kD)) yR) yN))
 (kS (kR (yA 10 m_mkmap (yM 3 10 kD)))
 (kS (kS (kR (yM 11 0 (kP 12 (pNil J11) (kP 13 (pO 0 J12) (kP 14 (pL J13) (kP 15 (pLenS J14) (kP 16 yZ kD)))))))
 (kO 0 (kLoop (kS (kR (kP 17 (pB .lss fLss J16 J15) kD))
 (kS (kQ J17 yN (kR (kEnd (.exit 0))))
 (kS (kO 1 (kS (kR (kP 18 (pIdxS 5 J14 J16) (kP 19 (pM 5 J18) (yA 5 (m_alloc [yW, yI, yI, yI, yI] 217) (kM none (m_store 5 (.t 5) (.t 19)) kD)))))
 (kS (kR (yM 21 3 (kP 22 (pO 0 J5) (kP 23 (pL J22) (yA 24 (m_look yI true (.t 21) (.t 23)) (yM 20 24 (kP 25 (pExt 0 J20) (kP 26 (pExt 1 J20) (yM 6 25 (yM 7 26 kD))))))))))
 (kS (kS (kR (yM 27 7 (kP 28 (pNot J27) kD)))
 (kQ J28 (kS (kDraw (yM 29 3 (kP 30 (pO 0 J5) (kP 31 (pL J30) (yM 32 2 (kP 33 (pLenS J32) (yM 34 2 (kP 35 (pLenS J34) (yM 6 33 kD)))))))) (kM none (m_mapset (.t 29) (.t 31) (.t 35)) kD))
 (kR (yM 36 2 (kP 37 (pO 0 J5) (kP 38 (pL J37) (kP 39 (pO 2 J5) (kP 40 (pL J39) (yA 41 (m_build [yW, yI, yI] [(0, 1, (.t 38)), (1, 1, (.t 40))]) (yA 42 (m_mkslc 222 1 [yW, yI, yI] [(0, 3, (.t 41))]) (yA 43 (m_append 222 3 24 (.t 36) (.t 42)) (yM 2 43 kD))))))))))) yN))
 (kDraw (yM 44 2 (yM 45 6 (yM 46 2 (yM 47 6 (kP 48 (pIdxS 3 J46 J47) (kP 49 (pO 2 J48) (kP 50 (pL J49) (kP 51 (pO 3 J5) (kP 52 (pL J51) (kP 53 (pB .add fAdd J50 J52) (yA 54 (m_mn (.t 53) (.c (iI 65536))) (kP 55 (pIdxS 3 J44 J45) (kP 56 (pO 2 J55) (kM none (m_store 1 (.t 56) (.t 54)) kD)))))))))))))) kD)))))
 (kR (kP 57 (pB .add fAdd J16 yJ2) (yM 16 57 kD)))))))))
 (kS (kR (yM 58 2 (kC z (some 59) 158 [J58, (gC (.func (.func 159) [] []))] kD)))
 (kS (kR (yM 60 2 (yM 2 60 kD))) yR)))))), 61, [.tmp 2]⟩
def kf102 : KFn := ⟨fun z => (kS (kR (kP 9 (pL J2) (kP 10 (pNil J9) (kP 11 (pO 8 J10) (kP 12 (pL J11) (yM 13 0 (yM 14 1 (kC z (some 15) 103 [J12, J13, J14] (kP 16 (pLenS J15) (kP 17 yZ kD))))))))))
 (kO 0 (kLoop (kS (kR (kP 18 (pB .lss fLss J17 J16) kD))
 (kS (kQ J18 yN (kR (kEnd (.exit 0))))
 (kS (kO 1 (kS (kR (kP 19 (pIdxS 5 J15 J17) (kP 20 (pM 5 J19) (yA 8 (m_alloc [yW, yI, yI, yI, yI] 217) (kM none (m_store 5 (.t 8) (.t 20)) kD)))))
 (kS (kDraw (kP 21 (pL J3) (kP 22 (pL J2) (kP 23 (pM 5 J8) (kC z (some 24) 104 [J22, J23] (kOld (fun k a aw => iChk k a aw 21 none (.load none (.t 3))) (yA 25 (m_mkslc 37 1 [yS] [(0, 1, (.t 24))]) (kOld (fun k a aw => iChk k a aw 21 none (.load none (.t 3))) (yA 26 (m_append 37 1 24 (.t 21) (.t 25)) kD)))))))) (kM none (m_store 1 (.t 3) (.t 26)) kD))
 (kR (kP 27 (pL J4) (kP 28 (pO 3 J8) (kP 29 (pL J28) (kP 30 (pB .sub fSub J27 J29) (kM none (m_store 1 (.t 4) (.t 30)) kD)))))))))
 (kR (kP 31 (pB .add fAdd J17 yJ2) (yM 17 31 kD))))))))), 32, []⟩
def kf103 : KFn := ⟨fun z => (kS (kR (yA 4 (m_box 28 (.t 1)) (kP 6 yY kD)))
 (kS (kR (yM 8 2 (yA 7 (m_alloc [yI] 3) (kM none (m_store 1 (.t 7) (.t 8)) kD))))
 (kS (kR (yM 9 0 (yA 10 (m_func 163 [] [(.t 4), (.t 7)]) (kC z (some 11) 156 [J9, J10] (yM 6 11 kD))))) yR))), 12, [.tmp 6]⟩
def kf104 : KFn := ⟨fun z => (kS (kR (yA 3 (m_box 217 (.t 1)) (kP 4 yY kD)))
 (kS (kR (yM 12 0 (kP 13 (pO 0 J3) (kP 14 (pL J13) (kC z (some 15) 164 [J12, J14] (yM 11 15 (kP 16 (pExt 0 J11) (kP 17 (pExt 1 J11) (yA 5 (m_alloc [yW, yI, yS, yI, yI, yI] 31) (kM none (m_store 6 (.t 5) (.t 16)) (yM 6 17 kD)))))))))))
 (kS (kDraw (yM 19 0 (kP 20 (pNil J19) (kP 21 (pO 5 J20) (kP 22 (pL J21) (kP 23 (pM 6 J5) (yM 24 0 (kP 25 (pNil J24) (kP 26 (pO 7 J25) (kP 27 (pL J26) (kP 28 (pO 0 J5) (kP 29 (pL J28) (yA 30 (m_look yS false (.t 27) (.t 29)) (yM 31 0 (kP 32 (pNil J31) (kP 33 (pO 0 J32) (kP 34 (pO 0 J33) (kP 35 (pL J34) (kP 36 (pO 1 J3) (kP 37 (pL J36) (yM 39 0 (kP 40 (pNil J39) (kP 41 (pO 13 J40) (kP 42 (pL J41) (yM 43 0 (kP 44 (pNil J43) (kP 45 (pO 12 J44) (kP 46 (pL J45) (kP 47 (pConv .u16 J46) (yA 38 (m_mkslc 3 1 [yI] [(0, 1, (.t 37))]) (kOld (fun k a aw => iChk k a aw 46 none (.load none (.t 45))) (kOld (fun k a aw => iChk k a aw 42 none (.load none (.t 41))) (kOld (fun k a aw => iChk k a aw 35 none (.load none (.t 34))) (kOld (fun k a aw => iChk k a aw 30 none (.look yS false (.t 27) (.t 29))) (kOld (fun k a aw => iChk k a aw 29 none (.load none (.t 28))) (kOld (fun k a aw => iChk k a aw 27 none (.load none (.t 26))) (kOld (fun k a aw => iChk k a aw 23 none (.load (some 6) (.t 5))) (kOld (fun k a aw => iChk k a aw 22 none (.load none (.t 21))) (kC z (some 48) 165 [J22, J23, J30, J35, J38, J42, J47] (yM 18 48 (kP 49 (pExt 0 J18) (kP 50 (pExt 1 J18) (yM 7 49 kD)))))))))))))))))))))))))))))))))))))))))) (yM 8 50 kD))
 (kS (kS (kR (yM 51 8 (kP 52 (pNot J51) kD)))
 (kQ J52 (kS (kR (kP 4 yY kD)) yR) yN))
 (kS (kR (yM 53 0 (kP 54 (pNil J53) (kP 55 (pO 13 J54) (kP 56 (pL J55) (kP 57 (pB .add fAdd J56 (gC (.int .u16 (.ofNat 1)))) (kP 58 (pNil J53) (kP 59 (pO 13 J58) (kM none (m_store 1 (.t 59) (.t 57)) kD)))))))))
 (kS (kR (yM 61 7 (kP 62 (pIdxS 5 J61 yI1) (kP 63 (pM 5 J62) (yA 64 (m_build [yI, yH, yH, yW, yH, yS, (.int .u64 (.ofNat 0)), yW, yW, yH, yH, yW, yH] [(0, 1, (.c yJ)), (1, 5, (.t 63))]) (kC z (some 65) 166 [J64] (yM 60 65 (kP 66 (pExt 0 J60) (kP 67 (pExt 1 J60) (yM 9 66 (yM 10 67 kD)))))))))))
 (kS (kR (yM 68 9 (yM 4 68 kD))) yR))))))), 69, [.tmp 4]⟩
def kf105 : KFn := ⟨fun z => (kS (kR (yA 3 (m_box 213 (.t 1)) (kP 4 yY kD)))
 (kS (kR (yM 16 0 (kC z (some 17) 167 [J16] (yM 5 17 (kP 6 yZ kD)))))
 (kS (kS (kR (kP 18 (pL J3) (kP 19 (pLenS J18) (kP 20 yZ kD))))
 (kO 0 (kLoop (kS (kR (kP 21 (pB .lss fLss J20 J19) kD))
 (kS (kQ J21 yN (kR (kEnd (.exit 0))))
 (kS (kO 1 (kS (kR (kP 22 (pIdxS 3 J18 J20) (kP 23 (pM 3 J22) (yA 8 (m_alloc [yW, yI, yI] 222) (kM none (m_store 3 (.t 8) (.t 23)) kD)))))
 (kR (yM 24 6 (kP 25 (pO 1 J8) (kP 26 (pL J25) (kC z (some 27) 168 [J26] (kP 28 (pB .add fAdd J24 J27) (yM 6 28 kD)))))))))
 (kR (kP 29 (pB .add fAdd J20 yJ2) (yM 20 29 kD)))))))))
 (kS (kR (kP 30 (pL J3) (kP 31 (pLenS J30) (yA 32 (m_mkslice 3 [yI] 8 (.t 31) (.t 31)) (yM 9 32 kD)))))
 (kS (kR (kP 33 (pL J3) (kP 34 (pLenS J33) (yA 35 (m_mkslice 3 [yI] 8 (.t 34) (.t 34)) (yM 10 35 kD)))))
 (kS (kS (kR (kP 36 (pL J3) (kP 37 (pLenS J36) (kP 38 yZ kD))))
 (kO 2 (kLoop (kS (kR (kP 39 (pB .lss fLss J38 J37) kD))
 (kS (kQ J39 yN (kR (kEnd (.exit 2))))
 (kS (kO 3 (kS (kR (yM 40 38 (kP 41 (pIdxS 3 J36 J38) (kP 42 (pM 3 J41) (yA 12 (m_alloc [yW, yI, yI] 222) (yM 11 40 (kM none (m_store 3 (.t 12) (.t 42)) kD)))))))
 (kS (kDraw (yM 43 9 (yM 44 11 (yM 45 0 (kP 47 (pO 1 J12) (kP 48 (pL J47) (yM 51 6 (kP 53 (pO 2 J12) (kP 54 (pL J53) (kC z (some 46) 167 [J45] (kOld (fun k a aw => iChk k a aw 54 none (.load none (.t 53))) (kOld (fun k a aw => iChk k a aw 48 none (.load none (.t 47))) (kC z (some 49) 168 [J48] (kOld (fun k a aw => iChk k a aw 54 none (.load none (.t 53))) (kP 50 (pB .mul fMul J46 J49) (kP 52 (pB .quo (iopF .quo) J50 J51) (kC z (some 55) 167 [J54] (yA 56 (m_mn (.t 52) (.t 55)) kD))))))))))))))))) (kP 57 (pIdxS 1 J43 J44) (kM none (m_store 1 (.t 57) (.t 56)) kD)))
 (kS (kR (yM 58 5 (yM 59 9 (yM 60 11 (kP 61 (pIdxS 1 J59 J60) (kP 62 (pL J61) (kP 63 (pB .sub fSub J58 J62) (yM 5 63 kD))))))))
 (kR (yM 64 10 (yM 65 11 (yM 66 11 (kP 67 (pIdxS 1 J64 J65) (kM none (m_store 1 (.t 67) (.t 66)) kD))))))))))
 (kR (kP 68 (pB .add fAdd J38 yJ2) (yM 38 68 kD)))))))))
 (kS (kR (yM 69 10 (yA 70 (m_func 170 [] [(.t 3)]) (kC z (some 71) 169 [J69, J70] kD))))
 (kS (kS (kR (yM 72 10 (kP 73 (pLenS J72) (kP 74 yZ kD))))
 (kO 4 (kLoop (kS (kR (kP 75 (pB .lss fLss J74 J73) kD))
 (kS (kQ J75 yN (kR (kEnd (.exit 4))))
 (kS (kO 5 (kS (kR (kP 76 (pIdxS 1 J72 J74) (kP 77 (pL J76) (yM 14 77 kD))))
 (kS (kDraw (kP 78 (pL J3) (yM 79 14 (kP 80 (pIdxS 3 J78 J79) (kP 81 (pO 2 J80) (kP 82 (pL J81) (yM 84 9 (yM 85 14 (kP 86 (pIdxS 1 J84 J85) (kP 87 (pL J86) (yM 89 5 (kC z (some 83) 167 [J82] (kOld (fun k a aw => iChk k a aw 87 none (.load none (.t 86))) (kP 88 (pB .sub fSub J83 J87) (yA 90 (m_mn (.t 88) (.t 89)) kD)))))))))))))) (yM 15 90 kD))
 (kS (kR (yM 91 9 (yM 92 14 (kP 93 (pIdxS 1 J91 J92) (kP 94 (pL J93) (yM 95 15 (kP 96 (pB .add fAdd J94 J95) (kP 97 (pIdxS 1 J91 J92) (kM none (m_store 1 (.t 97) (.t 96)) kD)))))))))
 (kR (yM 98 5 (yM 99 15 (kP 100 (pB .sub fSub J98 J99) (yM 5 100 kD)))))))))
 (kR (kP 101 (pB .add fAdd J74 yJ2) (yM 74 101 kD)))))))))
 (kS (kR (yM 102 9 (yM 4 102 kD))) yR))))))))), 103, [.tmp 4]⟩
def kf106 : KFn := ⟨fun z => (kS (kR (yA 2 (m_alloc [yI, yH, yH, yW, yH, yS, (.int .u64 (.ofNat 0)), yW, yW, yH, yH, yW, yH] 66) (kP 3 yZ kD)))
 (kS (kR (yM 10 0 (kC z (some 11) 171 [J10] (yM 9 11 (kP 12 (pExt 0 J9) (kP 13 (pExt 1 J9) (yM 4 12 (yM 5 13 kD))))))))
 (kS (kS (kR (yM 14 5 (kP 15 (pNot J14) kD)))
 (kQ J15 (kS (kR (yA 16 (m_build [yI, yH, yH, yW, yH, yS, (.int .u64 (.ofNat 0)), yW, yW, yH, yH, yW, yH] []) (kM none (m_store 13 (.t 2) (.t 16)) (kP 3 (yC (iI 3)) kD)))) yR) yN))
 (kS (kS (kR (yM 17 4 (kP 18 (pLenS J17) (kP 19 (pB .eql fEql J18 yI1) kD))))
 (kQ J19 (kS (kR (yA 20 (m_build [yI, yH, yH, yW, yH, yS, (.int .u64 (.ofNat 0)), yW, yW, yH, yH, yW, yH] []) (kM none (m_store 13 (.t 2) (.t 20)) (kP 3 (yC (iI 2)) kD)))) yR) yN))
 (kS (kR (yM 21 4 (kP 22 (pIdxS 1 J21 yI1) (kP 23 (pL J22) (kP 24 (pConv .i64 J23) (yA 25 (m_build [yI, yH, yH, yW, yH, yS, (.int .u64 (.ofNat 0)), yW, yW, yH, yH, yW, yH] [(0, 1, (.t 24))]) (yA 6 (m_alloc [yI, yH, yH, yW, yH, yS, (.int .u64 (.ofNat 0)), yW, yW, yH, yH, yW, yH] 66) (kM none (m_store 13 (.t 6) (.t 25)) kD))))))))
 (kS (kDraw (kP 28 (pO 0 J6) (kP 29 (pL J28) (kC z (some 27) 172 [] (kOld (fun k a aw => iChk k a aw 29 none (.load none (.t 28))) (yA 30 (m_look (.agg [.nilFunc, .nilFunc]) true (.t 27) (.t 29)) (yM 26 30 (kP 31 (pExt 0 J26) (kP 32 (pExt 1 J26) (yA 7 (m_alloc [.nilFunc, .nilFunc] 303) (kOld (fun k a aw => iChk k a aw 30 none (.look (.agg [.nilFunc, .nilFunc]) true (.t 27) (.t 29))) (kOld (fun k a aw => iChk k a aw 29 none (.load none (.t 28))) (kM none (m_store 2 (.t 7) (.t 31)) kD)))))))))))) (yM 8 32 kD))
 (kS (kS (kDraw (yM 33 8 (kP 34 (pNot J33) (yM 35 34 (yP 35 false 36 (pO 1 J7) (yP 35 false 37 (pL J36) (yP 35 false 38 (yT 4) (yU 35 false 39 (m_slice 1 (.t 38) (some (.c yJ)) none none) (yG 35 false (some 40) (kCallv z (some 40) (.t 37) [J6, J39]) (yP 35 false 41 (pB .neq fNeq J40 yI1) (kP 42 (pPick J35 yV1 J41) kD)))))))))) kD)
 (kQ J42 (kS (kR (yA 43 (m_build [yI, yH, yH, yW, yH, yS, (.int .u64 (.ofNat 0)), yW, yW, yH, yH, yW, yH] []) (kM none (m_store 13 (.t 2) (.t 43)) (kP 3 (yC (iI 2)) kD)))) yR) yN))
 (kS (kR (kP 44 (pM 13 J6) (kM none (m_store 13 (.t 2) (.t 44)) (kP 3 yZ kD)))) yR)))))))), 45, [.cell 2 (some 13), .tmp 3]⟩
def kf107 : KFn := ⟨fun z => (kS (kR (kP 2 yY kD))
 (kS (kS (kR (yM 5 0 (yA 6 (m_nileq 0 false (.t 5)) kD)))
 (kQ J6 (kS (kR (kP 2 yY kD)) yR) yN))
 (kS (kS (kR (yM 7 0 (kP 8 (pNil J7) (kP 9 (pO 6 J8) (kP 10 (pL J9) (kP 11 (pLenS J10) (kP 12 yZ kD)))))))
 (kO 0 (kLoop (kS (kR (kP 13 (pB .lss fLss J12 J11) kD))
 (kS (kQ J13 yN (kR (kEnd (.exit 0))))
 (kS (kO 1 (kS (kR (kP 14 (pIdxS 6 J10 J12) (kP 15 (pM 6 J14) (yA 4 (m_alloc [yW, yI, yS, yI, yI, yI] 31) (kM none (m_store 6 (.t 4) (.t 15)) kD)))))
 (kS (kR (kP 16 (pO 2 J4) (kP 17 (pL J16) (kC z (some 18) 87 [J17] (kP 19 (pO 2 J4) (kM none (m_store 1 (.t 19) (.t 18)) kD))))))
 (kR (yM 20 2 (kP 21 (pM 6 J4) (yA 22 (m_mkslc 31 1 [yW, yI, yS, yI, yI, yI] [(0, 6, (.t 21))]) (yA 23 (m_append 31 6 64 (.t 20) (.t 22)) (yM 2 23 kD)))))))))
 (kR (kP 24 (pB .add fAdd J12 yJ2) (yM 12 24 kD)))))))))
 (kS (kR (yM 25 2 (yM 2 25 kD))) yR)))), 26, [.tmp 2]⟩
def kf108 : KFn := ⟨fun z => (kS (kR (kP 6 yY kD))
 (kS (kS (kR (yM 10 0 (yA 11 (m_nileq 0 false (.t 10)) kD)))
 (kQ J11 (kS (kR (kP 6 yY kD)) yR) yN))
 (kS (kS (kR (yM 12 0 (kP 13 (pNil J12) (kP 14 (pO 1 J13) (kP 15 (pL J14) (kP 16 (pLenS J15) (yM 7 16 kD)))))))
 (kO 0 (kLoop (kS (kS (kR (yM 17 7 (yM 18 0 (kP 19 (pNil J18) (kP 20 (pO 0 J19) (kP 21 (pL J20) (kP 22 (pLenS J21) (kP 23 (pB .lss fLss J17 J22) kD))))))))
 (kQ J23 yN (kR (kEnd (.exit 0)))))
 (kS (kO 1 (kS (kR (yM 26 0 (kP 27 (pNil J26) (kP 28 (pO 0 J27) (kP 29 (pL J28) (yM 30 7 (kP 31 (pIdxS 6 J29 J30) (kP 32 (pM 6 J31) (yA 8 (m_alloc [yW, yI, yS, yI, yI, yI] 31) (kM none (m_store 6 (.t 8) (.t 32)) kD))))))))))
 (kS (kDraw (yM 33 0 (kP 34 (pM 6 J8) (yM 35 1 (yM 36 2 (kP 37 (pO 0 J8) (kP 38 (pL J37) (kC z (some 39) 150 [J36, J38] (kOld (fun k a aw => iChk k a aw 34 none (.load (some 6) (.t 8))) (kC z (some 40) 173 [J33, J34, J35, J39] kD))))))))) (yM 9 40 kD))
 (kS (kS (kR (yM 41 9 (kP 42 (pB .eql fEql J41 yI1) kD)))
 (kQ J42 (kS (kR (yM 43 6 (yM 6 43 kD))) yR) yN))
 (kS (kR (yM 44 0 (yM 45 0 (kP 46 (pNil J45) (kP 47 (pO 1 J46) (kP 48 (pL J47) (yM 49 9 (yA 50 (m_mkslc 3 1 [yI] [(0, 1, (.t 49))]) (yA 51 (m_append 3 1 8 (.t 48) (.t 50)) (kP 52 (pNil J44) (kP 53 (pO 1 J52) (kM none (m_store 1 (.t 53) (.t 51)) kD))))))))))))
 (kR (yM 54 6 (yM 55 9 (kP 56 (pO 0 J8) (kP 57 (pL J56) (yM 58 1 (yA 59 (m_build [yI, yW, yI, yS] [(0, 1, (.t 55)), (1, 1, (.t 57)), (2, 1, (.t 58))]) (yA 60 (m_mkslc 42 1 [yI, yW, yI, yS] [(0, 4, (.t 59))]) (yA 61 (m_append 42 4 48 (.t 54) (.t 60)) (yM 6 61 kD)))))))))))))))
 (kR (yM 24 7 (kP 25 (pB .add fAdd J24 yJ2) (yM 7 25 kD)))))))))
 (kS (kR (yM 62 6 (yM 6 62 kD))) yR)))), 63, [.tmp 6]⟩
def kf109 : KFn := ⟨fun z => (kS (kR (kP 2 yY kD))
 (kS (kS (kR (yM 5 0 (kP 6 (pNil J5) (kP 7 (pO 5 J6) (kP 8 (pL J7) (kC z (some 9) 174 [J8] (kP 10 (pLenS J9) (kP 11 yZ kD))))))))
 (kO 0 (kLoop (kS (kR (kP 12 (pB .lss fLss J11 J10) kD))
 (kS (kQ J12 yN (kR (kEnd (.exit 0))))
 (kS (kO 1 (kS (kR (kP 13 (pIdxS 1 J9 J11) (kP 14 (pL J13) (yM 4 14 kD))))
 (kS (kR (yM 15 0 (yM 16 4 (kC z (some 17) 175 [J15, J16] (kP 18 (pB .eql fEql J17 yI1) kD)))))
 (kQ J18 (kR (yM 19 2 (yM 20 4 (yA 21 (m_mkslc 28 1 [yW] [(0, 1, (.t 20))]) (yA 22 (m_append 28 1 4 (.t 19) (.t 21)) (yM 2 22 kD)))))) yN))))
 (kR (kP 23 (pB .add fAdd J11 yJ2) (yM 11 23 kD)))))))))
 (kS (kR (yM 24 2 (yM 2 24 kD))) yR))), 25, [.tmp 2]⟩
def kf110 : KFn := ⟨fun z => (kS (kR (kP 4 yY (kP 5 yX kD)))
 (kS (kR (yM 6 0 (yM 7 1 (kC z (some 8) 155 [J6, J7] (kC z (some 9) 176 [J8] (kP 10 (pExt 0 J9) (kP 11 (pExt 1 J9) (yM 4 10 (yM 5 11 kD))))))))) yR)), 12, [.tmp 4, .tmp 5]⟩
def kf111 : KFn := ⟨fun z => (kS (kR (yA 1 (m_box 66 (.t 0)) (kP 2 yY kD)))
 (kS (kR (kP 6 (pM 13 J1) (kC z (some 7) 166 [J6] (yM 5 7 (kP 8 (pExt 0 J5) (kP 9 (pExt 1 J5) (yM 3 8 (yM 4 9 kD))))))))
 (kS (kR (yM 10 3 (yM 2 10 kD))) yR))), 11, [.tmp 2]⟩
def kf112 : KFn := ⟨fun z => (kS (kR (kP 4 yX kD))
 (kS (kR (yM 6 0 (yM 7 1 (kC z (some 8) 155 [J6, J7] (yA 9 (m_nileq 0 true (.t 8)) (yM 5 9 kD))))))
 (kS (kS (kR (yM 10 5 kD))
 (kQ J10 (kR (yM 11 0 (kP 12 (pNil J11) (kP 13 (pO 4 J12) (kP 14 (pL J13) (yM 15 1 (kM none (m_del (.t 14) (.t 15)) kD))))))) yN))
 (kS (kR (yM 16 5 (yM 4 16 kD))) yR)))), 17, [.tmp 4]⟩
def kf114 : KFn := ⟨fun z => (kS (kR (kP 6 yY kD))
 (kS (kR (yM 8 0 (yM 9 1 (yM 10 2 (yM 11 0 (kP 12 (pLenS J11) (yA 13 (m_slice 1 (.t 8) (some (.t 9)) (some (.t 10)) (some (.t 12))) kD)))))))
 (kS (kS (kR (yM 14 1 (yM 15 2 (kP 16 (pB .eql fEql J14 J15) kD))))
 (kQ J16 (kS (kR (yM 17 0 (yM 6 17 kD))) yR) yN))
 (kS (kR (yM 18 0 (kP 19 (pLenS J18) (yM 7 19 kD))))
 (kS (kDraw (yM 20 0 (yM 21 1 (yA 22 (m_slice 1 (.t 20) none (some (.t 21)) none) (yM 23 0 (yM 24 2 (yA 25 (m_slice 1 (.t 23) (some (.t 24)) none none) (yA 26 (m_append 37 1 24 (.t 22) (.t 25)) kD))))))) (yM 0 26 kD))
 (kS (kR (yM 27 0 (yM 28 0 (kP 29 (pLenS J28) (yM 30 7 (yA 31 (m_slice 1 (.t 27) (some (.t 29)) (some (.t 30)) none) (kM none (m_clear [yS] (.t 31)) kD)))))))
 (kS (kR (yM 32 0 (yM 6 32 kD))) yR))))))), 33, [.tmp 6]⟩
def kf115 : KFn := ⟨fun z => (kS (kR (yA 4 (m_alloc [yH, yH, yW, yH, yS] 61) (yA 5 (m_alloc [yW, yI, yS, yI, yI, yI] 31) (kP 6 yZ kD))))
 (kS (kR (yM 14 1 (kC z (some 15) 106 [J14] (yM 13 15 (kP 16 (pExt 0 J13) (kP 17 (pExt 1 J13) (yA 7 (m_alloc [yI, yH, yH, yW, yH, yS, (.int .u64 (.ofNat 0)), yW, yW, yH, yH, yW, yH] 66) (kM none (m_store 13 (.t 7) (.t 16)) (yM 6 17 kD)))))))))
 (kS (kS (kR (yM 18 6 (kP 19 (pB .neq fNeq J18 yI1) kD)))
 (kQ J19 (kS (kDraw (kP 20 (pM 5 J4) (kP 21 (pM 6 J5) (yM 22 6 (kM none (m_store 5 (.t 4) (.t 20)) (kOld (fun k a aw => iChk k a aw 21 none (.load (some 6) (.t 5))) (kM none (m_store 6 (.t 5) (.t 21)) kD)))))) (yM 6 22 kD)) yR) yN))
 (kS (kR (yM 24 0 (kP 25 (pO 1 J7) (kP 26 (pO 2 J25) (kP 27 (pL J26) (kC z (some 28) 180 [J24, J27] (yM 23 28 (kP 29 (pExt 0 J23) (kP 30 (pExt 1 J23) (kM none (m_store 6 (.t 5) (.t 29)) (yM 8 30 kD)))))))))))
 (kS (kS (kDraw (kP 31 (pO 0 J7) (kP 32 (pL J31) (kP 33 (pB .neq fNeq J32 yJ2) (yM 34 33 (yP 34 false 35 (yT 8) (yP 34 false 36 (pNot J35) (kP 37 (pPick J34 yV1 J36) (yM 38 37 (yP 38 false 39 (pO 1 J7) (yP 38 false 40 (pO 4 J39) (yP 38 false 41 (pL J40) (yP 38 false 42 (pLenS J41) (yP 38 false 43 (yT 0) (yP 38 false 44 (pNil J43) (yP 38 false 45 (pO 0 J44) (yP 38 false 46 (pO 0 J45) (yP 38 false 47 (pL J46) (yP 38 false 48 (pB .neq fNeq J42 J47) (kP 49 (pPick J38 yV1 J48) kD))))))))))))))))))) kD)
 (kQ J49 (kS (kDraw (kP 50 (pM 5 J4) (kP 51 (pM 6 J5) (kM none (m_store 5 (.t 4) (.t 50)) (kOld (fun k a aw => iChk k a aw 51 none (.load (some 6) (.t 5))) kD)))) (kM none (m_store 6 (.t 5) (.t 51)) (kP 6 (yC (iI 2)) kD))) yR) yN))
 (kS (kDraw (kP 53 (pO 3 J5) (kP 54 (pL J53) (yM 55 0 (kP 56 (pNil J55) (kP 57 (pO 0 J56) (kP 58 (pO 0 J57) (kP 59 (pL J58) (kC z (some 60) 88 [J54, J59] (yM 52 60 (kP 61 (pExt 0 J52) (kP 62 (pExt 1 J52) (yM 9 61 kD)))))))))))) (yM 10 62 kD))
 (kS (kS (kR (kP 64 (pO 0 J5) (kP 65 (pL J64) (kP 66 (pO 1 J7) (kP 67 (pO 3 J66) (kP 68 (pL J67) (kP 69 (pConv .i64 J68) (yM 70 9 (kC z (some 71) 181 [J65, J69, J70] (yM 63 71 (kP 72 (pExt 0 J63) (kP 73 (pExt 1 J63) (yM 11 72 (yM 12 73 kD))))))))))))))
 (kS (kR (yM 74 12 (kP 75 (pNot J74) kD)))
 (kQ J75 (kS (kDraw (kP 76 (pM 5 J4) (kP 77 (pM 6 J5) (kM none (m_store 5 (.t 4) (.t 76)) (kOld (fun k a aw => iChk k a aw 77 none (.load (some 6) (.t 5))) kD)))) (kM none (m_store 6 (.t 5) (.t 77)) (kP 6 (yC (iI 2)) kD))) yR) yN)))
 (kS (kDraw (kP 78 (pO 1 J7) (kP 79 (pM 5 J78) (kP 80 (pM 6 J5) (kM none (m_store 5 (.t 4) (.t 79)) (kOld (fun k a aw => iChk k a aw 80 none (.load (some 6) (.t 5))) kD))))) (kM none (m_store 6 (.t 5) (.t 80)) (kP 6 yZ kD))) yR)))))))), 81, [.cell 4 (some 5), .cell 5 (some 6), .tmp 6]⟩
def kf116 : KFn := ⟨fun z => (kS (kR (kP 4 (yC (.int .u64 (.ofNat 0))) (kP 5 yX kD)))
 (kS (kS (kR (yM 7 0 (yA 8 (m_nileq 0 false (.t 7)) kD)))
 (kQ J8 (kS (kR (kP 4 (yC (.int .u64 (.ofNat 0))) (kP 5 yX kD))) yR) yN))
 (kS (kR (yM 9 0 (kP 10 (pNil J9) (kP 11 (pO 0 J10) (kP 12 (pL J11) (yM 13 1 (kC z (some 14) 182 [J12, J13] (yM 6 14 kD))))))))
 (kS (kS (kR (yM 15 0 (kP 16 (pNil J15) (kP 17 (pO 3 J16) (kP 18 (pL J17) (kP 19 (pNot J18) kD))))))
 (kQ J19 (kR (yM 20 0 (yM 21 0 (yM 22 6 (kP 23 (pB .sub fSub J22 (gC (.int .u64 (.ofNat 1)))) (kP 24 (pNil J20) (kP 25 (pO 2 J24) (kM none (m_store 1 (.t 25) (.t 23)) (kP 26 (pNil J21) (kP 27 (pO 3 J26) (kM none (m_store 1 (.t 27) (.c yV)) kD))))))))))) yN))
 (kS (kS (kR (yM 28 0 (kP 29 (pNil J28) (kP 30 (pO 1 J29) (kP 31 (pL J30) (yM 32 6 (yA 33 (m_look yF false (.t 31) (.t 32)) kD)))))))
 (kQ J33 (kS (kR (yM 34 0 (kP 35 (pNil J34) (kP 36 (pO 5 J35) (kP 37 (pL J36) (kP 38 (pB .add fAdd J37 (gC (.int .u64 (.ofNat 1)))) (kP 39 (pNil J34) (kP 40 (pO 5 J39) (kM none (m_store 1 (.t 40) (.t 38)) kD)))))))))
 (kS (kR (yM 41 6 (yM 4 41 (kP 5 yX kD)))) yR)) yN))
 (kS (kR (yM 42 0 (kP 43 (pNil J42) (kP 44 (pO 1 J43) (kP 45 (pL J44) (yM 46 6 (kM none (m_mapset (.t 45) (.t 46) (.c yV)) kD)))))))
 (kS (kS (kR (yM 47 6 (yM 48 0 (kP 49 (pNil J48) (kP 50 (pO 2 J49) (kP 51 (pL J50) (kP 52 (pB .leq fLeq J47 J51) kD)))))))
 (kQ J52 (kR (yM 53 0 (kP 54 (pNil J53) (kP 55 (pO 4 J54) (kP 56 (pL J55) (kP 57 (pB .add fAdd J56 (gC (.int .u64 (.ofNat 1)))) (kP 58 (pNil J53) (kP 59 (pO 4 J58) (kM none (m_store 1 (.t 59) (.t 57)) kD))))))))) yN))
 (kS (kR (yM 60 6 (yM 4 60 (kP 5 yW1 kD)))) yR)))))))), 61, [.tmp 4, .tmp 5]⟩
def kf117 : KFn := ⟨fun z => (kS (kS (kR (yM 8 0 (yA 9 (m_nileq 0 false (.t 8)) kD)))
 (kQ J9 yR yN))
 (kS (kR (yM 10 2 (kP 11 (pConv .u16 J10) (yM 12 1 (kP 13 (pB .sub fSub J11 J12) (yM 6 13 kD))))))
 (kS (kS (kR (yM 14 0 (kP 15 (pNil J14) (kP 16 (pO 1 J15) (kP 17 (pL J16) kD)))))
 (kQ J17 (kS (kR (yM 18 0 (kP 19 (pNil J18) (kP 20 (pO 0 J19) (kP 21 (pL J20) (yM 22 6 (kC z (some 23) 183 [J21, J22] (yM 7 23 kD))))))))
 (kDraw (yM 24 0 (kP 25 (pNil J24) (kP 26 (pO 2 J25) (kP 27 (pL J26) (yM 28 7 (yM 29 7 (yA 30 (m_neg (.t 29)) (yA 31 (m_mx (.t 28) (.t 30)) (yM 32 0 (kP 33 (pNil J32) (kP 34 (pO 2 J33) (kP 35 (pL J34) (kP 36 (pB .add fAdd J35 (gC (iI 8))) (kP 37 (pB .quo (iopF .quo) J36 (gC (iI 16))) (kP 38 (pB .sub fSub J31 J37) (kP 39 (pB .add fAdd J27 J38) (kP 40 (pNil J24) (kP 41 (pO 2 J40) (kM none (m_store 1 (.t 41) (.t 39)) kD))))))))))))))))))) kD)) yN))
 (kR (yM 42 0 (yM 43 0 (yM 44 6 (kP 45 (pNil J42) (kP 46 (pO 0 J45) (kM none (m_store 1 (.t 46) (.t 44)) (kP 47 (pNil J43) (kP 48 (pO 1 J47) (kM none (m_store 1 (.t 48) (.c yV)) kD))))))))))))), 49, []⟩
def kf118 : KFn := ⟨fun z => (kS (kR (kP 4 yZ kD))
 (kS (kS (kR (yM 6 0 (yM 7 1 (kC z (some 8) 153 [J6, J7] (yM 5 8 kD)))))
 (kS (kR (yM 9 5 (kP 10 (pB .geq fGeq J9 yI1) (yM 11 10 (yP 11 true 12 (yT 5) (yP 11 true 13 (yT 0) (yP 11 true 14 (pNil J13) (yP 11 true 15 (pO 1 J14) (yP 11 true 16 (pL J15) (yP 11 true 17 (pLenS J16) (yP 11 true 18 (pB .lss fLss J12 J17) (kP 19 (pPick J11 J18 yF1) kD))))))))))))
 (kQ J19 (kS (kR (yM 20 0 (kP 21 (pNil J20) (kP 22 (pO 1 J21) (kP 23 (pL J22) (yM 24 5 (kP 25 (pIdxS 1 J23 J24) (kP 26 (pL J25) (yM 4 26 kD))))))))) yR) yN)))
 (kS (kR (kP 4 yZ kD)) yR))), 27, [.tmp 4]⟩
def kf119 : KFn := ⟨fun z => (kS (kR (yA 6 (m_box 31 (.t 1)) (kP 10 yX (kP 11 yY kD))))
 (kS (kS (kR (yM 18 0 (yA 19 (m_nileq 0 false (.t 18)) kD)))
 (kQ J19 (kS (kR (kP 10 yX (kP 11 yY kD))) yR) yN))
 (kS (kS (kDraw (yM 21 0 (kP 22 (pNil J21) (kP 23 (pO 4 J22) (kP 24 (pL J23) (kP 25 (pO 0 J6) (kP 26 (pL J25) (yA 27 (m_look (.agg [(.ptr none), yI]) true (.t 24) (.t 26)) (yM 20 27 (kP 28 (pExt 0 J20) (kP 29 (pExt 1 J20) (yA 12 (m_alloc [(.ptr none), yI] 286) (kOld (fun k a aw => iChk k a aw 27 none (.look (.agg [(.ptr none), yI]) true (.t 24) (.t 26))) (kOld (fun k a aw => iChk k a aw 26 none (.load none (.t 25))) (kOld (fun k a aw => iChk k a aw 24 none (.load none (.t 23))) (kM none (m_store 2 (.t 12) (.t 28)) kD))))))))))))))) (yM 13 29 kD))
 (kS (kR (yM 30 13 kD))
 (kQ J30 (kS (kR (kP 31 (pO 0 J12) (kP 32 (pL J31) (yM 33 3 (yM 34 4 (kC z (some 35) 184 [J32, J33, J34] (yM 10 35 (kP 11 yY kD)))))))) yR) yN)))
 (kS (kDraw (yM 37 0 (kP 38 (pNil J37) (kP 39 (pO 0 J38) (kP 40 (pL J39) (kP 41 (pO 0 J6) (kP 42 (pL J41) (kP 43 (pO 3 J6) (kP 44 (pL J43) (yM 45 0 (kP 46 (pNil J45) (kP 47 (pO 3 J46) (kP 48 (pL J47) (kC z (some 49) 185 [J40, J42, J44, J48] (yM 36 49 (kP 50 (pExt 0 J36) (kP 51 (pExt 1 J36) (yM 14 50 kD))))))))))))))))) (yM 15 51 kD))
 (kS (kS (kR (yM 52 15 (kP 53 (pNot J52) (yM 54 53 (yP 54 false 55 (yT 14) (yP 54 false 56 (yT 3) (yP 54 false 57 (yT 4) (yG 54 false (some 58) (kC z (some 58) 184 [J55, J56, J57]) (yP 54 false 59 (pNot J58) (kP 60 (pPick J54 yV1 J59) kD))))))))))
 (kQ J60 (kS (kR (kP 10 yX (kP 11 yY kD))) yR) yN))
 (kS (kDraw (yM 62 0 (kP 63 (pO 0 J6) (kP 64 (pL J63) (yM 65 2 (yM 66 14 (kC z (some 67) 187 [J66] (kOld (fun k a aw => iChk k a aw 64 none (.load none (.t 63))) (yA 68 (m_build [yW, yI, yI] [(0, 1, (.t 64)), (1, 1, (.t 65)), (2, 1, (.t 67))]) (kC z (some 69) 186 [J62, J68] (yM 61 69 (kP 70 (pExt 0 J61) (kP 71 (pExt 1 J61) (yM 11 70 kD))))))))))))) (yM 15 71 kD))
 (kS (kS (kR (yM 72 15 (kP 73 (pNot J72) kD)))
 (kQ J73 (kS (kR (kP 10 yX (kP 11 yY kD))) yR) yN))
 (kS (kS (kR (yM 74 11 (kP 75 (pLenS J74) (kP 76 yZ kD))))
 (kO 0 (kLoop (kS (kR (kP 77 (pB .lss fLss J76 J75) kD))
 (kS (kQ J77 yN (kR (kEnd (.exit 0))))
 (kS (kO 1 (kS (kR (kP 78 (pIdxS 1 J74 J76) (kP 79 (pL J78) (yM 17 79 kD))))
 (kR (yM 80 0 (kP 81 (pNil J80) (kP 82 (pO 4 J81) (kP 83 (pL J82) (yM 84 17 (kM none (m_del (.t 83) (.t 84)) kD)))))))))
 (kR (kP 85 (pB .add fAdd J76 yJ2) (yM 76 85 kD)))))))))
 (kS (kDraw (yM 86 0 (kP 87 (pNil J86) (kP 88 (pO 4 J87) (kP 89 (pL J88) (kP 90 (pO 0 J6) (kP 91 (pL J90) (yM 92 14 (yM 93 2 (yA 94 (m_build [(.ptr none), yI] [(0, 1, (.t 92)), (1, 1, (.t 93))]) kD))))))))) (kM none (m_mapset (.t 89) (.t 91) (.t 94)) kD))
 (kS (kR (yM 95 11 (kP 10 yW1 (yM 11 95 kD)))) yR)))))))))), 96, [.tmp 10, .tmp 11]⟩
def kf123 : KFn := ⟨fun z => (kS (kR (kP 6 yY kD))
 (kS (kR (yM 10 0 (yM 11 1 (yA 12 (m_slice 1 (.t 10) (some (.t 11)) none none) kD))))
 (kS (kR (yM 13 2 (kP 14 (pLenS J13) (yM 7 14 kD))))
 (kS (kS (kR (yM 15 7 (kP 16 (pB .eql fEql J15 yI1) kD)))
 (kQ J16 (kS (kR (yM 17 0 (yM 6 17 kD))) yR) yN))
 (kS (kR (yM 18 0 (kP 19 (pLenS J18) (yM 8 19 kD))))
 (kS (kS (kR (yM 20 1 (yM 21 8 (kP 22 (pB .eql fEql J20 J21) kD))))
 (kQ J22 (kS (kR (yM 23 0 (yM 24 2 (yA 25 (m_append 37 1 24 (.t 23) (.t 24)) (yM 6 25 kD))))) yR) yN))
 (kS (kS (kR (yM 26 8 (yM 27 7 (kP 28 (pB .add fAdd J26 J27) (yM 29 0 (yA 30 (m_capS (.t 29)) (kP 31 (pB .gtr fGtr J28 J30) kD)))))))
 (kQ J31 (kS (kR (yM 32 0 (yM 33 1 (yA 34 (m_slice 1 (.t 32) none (some (.t 33)) none) (yM 35 8 (yM 36 7 (kP 37 (pB .add fAdd J35 J36) (yM 38 1 (kP 39 (pB .sub fSub J37 J38) (yA 40 (m_appendZ 37 [yS] 24 (.t 34) (.t 39)) (yM 9 40 kD)))))))))))
 (kS (kR (yM 41 9 (yM 42 1 (yA 43 (m_slice 1 (.t 41) (some (.t 42)) none none) (yM 44 2 (yA 45 (m_copy 1 (.t 43) (.t 44)) kD))))))
 (kS (kDraw (yM 46 9 (yM 47 1 (yM 48 7 (kP 49 (pB .add fAdd J47 J48) (yA 50 (m_slice 1 (.t 46) (some (.t 49)) none none) (yM 51 0 (yM 52 1 (yA 53 (m_slice 1 (.t 51) (some (.t 52)) none none) (yA 54 (m_copy 1 (.t 50) (.t 53)) kD))))))))) kD)
 (kS (kR (yM 55 9 (yM 6 55 kD))) yR)))) yN))
 (kS (kR (yM 56 0 (yM 57 8 (yM 58 7 (kP 59 (pB .add fAdd J57 J58) (yA 60 (m_slice 1 (.t 56) none (some (.t 59)) none) (yM 0 60 kD)))))))
 (kS (kS (kR (yM 61 2 (yM 62 0 (yM 63 1 (yM 64 7 (kP 65 (pB .add fAdd J63 J64) (yA 66 (m_slice 1 (.t 62) (some (.t 65)) none none) (kC z (some 67) 193 [J61, J66] (kP 68 (pNot J67) kD)))))))))
 (kQ J68 (kS (kDraw (yM 69 0 (yM 70 1 (yM 71 7 (kP 72 (pB .add fAdd J70 J71) (yA 73 (m_slice 1 (.t 69) (some (.t 72)) none none) (yM 74 0 (yM 75 1 (yA 76 (m_slice 1 (.t 74) (some (.t 75)) none none) (yA 77 (m_copy 1 (.t 73) (.t 76)) kD))))))))) kD)
 (kS (kR (yM 78 0 (yM 79 1 (yA 80 (m_slice 1 (.t 78) (some (.t 79)) none none) (yM 81 2 (yA 82 (m_copy 1 (.t 80) (.t 81)) kD))))))
 (kS (kR (yM 83 0 (yM 6 83 kD))) yR))) yN))
 (kS (kR (yM 84 0 (yM 85 8 (yA 86 (m_slice 1 (.t 84) (some (.t 85)) none none) (yM 87 2 (yA 88 (m_copy 1 (.t 86) (.t 87)) kD))))))
 (kS (kR (yM 89 0 (yM 90 1 (yA 91 (m_slice 1 (.t 89) (some (.t 90)) none none) (yM 92 7 (kC z (some 93) 194 [J91, J92] kD))))))
 (kS (kR (yM 94 0 (yM 6 94 kD))) yR)))))))))))), 95, [.tmp 6]⟩
def kf140 : KFn := ⟨fun z => (kS (kR (yM 4 0 kD))
 (kQ J4 (kR (yM 5 1 (yA 6 (m_iface 32 (.t 5)) (fun t n ds aw => iPanic ⟨t, n, ds⟩ aw (.t 6))))) yN)), 7, []⟩
def kf141 : KFn := ⟨fun z => (kS (kR (yA 2 (m_box 31 (.t 0)) kD))
 (kS (kR (kP 6 (pO 1 J2) (kP 7 (pL J6) (kP 8 (pB .eql fEql J7 yJ2) (kP 9 (pO 2 J2) (kP 10 (pL J9) (kP 11 (pLenS J10) (kP 12 (pB .eql fEql J11 yI1) (yA 13 (m_beq true (.t 8) (.t 12)) (yM 14 13 (yP 14 false 15 (pO 2 J2) (yP 14 false 16 (pL J15) (yP 14 false 17 (pLenS J16) (yP 14 false 18 (pB .gtr fGtr J17 (gC (iI 4))) (kP 19 (pPick J14 yV1 J18) (kC z (some 20) 140 [J19, (gC (iI 6))] kD))))))))))))))))
 (kS (kR (kP 21 (pO 2 J2) (kP 22 (pL J21) (kP 23 (pLenS J22) (kP 24 yZ kD)))))
 (kO 0 (kLoop (kS (kR (kP 25 (pB .lss fLss J24 J23) kD))
 (kS (kQ J25 yN (kR (kEnd (.exit 0))))
 (kS (kO 1 (kS (kR (yM 26 24 (kP 27 (pIdxS 1 J22 J24) (kP 28 (pL J27) (yA 5 (m_alloc [yW] 28) (yM 4 26 (kM none (m_store 1 (.t 5) (.t 28)) kD)))))))
 (kS (kDraw (kP 29 (pO 2 J2) (kP 30 (pL J29) (yM 31 4 (yA 32 (m_slice 1 (.t 30) none (some (.t 31)) none) (kP 33 (pL J5) (kC z (some 34) 150 [J32, J33] (kC z (some 35) 140 [J34, (gC (iI 6))] kD))))))) kD)
 (kR (yM 36 1 (yA 37 (m_func 223 [] [(.t 5)]) (kC z (some 38) 148 [J36, J37] (kP 39 (pNot J38) (kC z (some 40) 140 [J39, (gC (iI 6))] kD)))))))))
 (kR (kP 41 (pB .add fAdd J24 yJ2) (yM 24 41 kD))))))))))), 42, []⟩
def kf142 : KFn := ⟨fun z => (kS (kR (yA 4 (m_alloc [yI, yI] 272) (kP 5 yX kD)))
 (kS (kS (kR (yM 8 0 (yA 9 (m_nileq 0 false (.t 8)) kD)))
 (kQ J9 (kS (kR (yA 10 (m_build [yI, yI] []) (kM none (m_store 2 (.t 4) (.t 10)) (kP 5 yX kD)))) yR) yN))
 (kS (kR (yM 12 0 (kP 13 (pNil J12) (kP 14 (pO 0 J13) (kP 15 (pL J14) (yM 16 1 (yA 17 (m_look (.agg [yI, yI]) true (.t 15) (.t 16)) (yM 11 17 (kP 18 (pExt 0 J11) (kP 19 (pExt 1 J11) (yA 6 (m_alloc [yI, yI] 272) (kM none (m_store 2 (.t 6) (.t 18)) (yM 7 19 kD)))))))))))))
 (kS (kR (kP 20 (pM 2 J6) (yM 21 7 (kM none (m_store 2 (.t 4) (.t 20)) (yM 5 21 kD))))) yR)))), 22, [.cell 4 (some 2), .tmp 5]⟩
def kf143 : KFn := ⟨fun z => (kS (kR (yA 3 (m_box 217 (.t 1)) (kP 4 yX kD)))
 (kS (kS (kR (yM 5 0 (yA 6 (m_nileq 0 false (.t 5)) (yM 7 6 (yP 7 false 8 (pO 3 J3) (yP 7 false 9 (pL J8) (yP 7 false 10 (pB .lss fLss J9 yJ2) (kP 11 (pPick J7 yV1 J10) (yM 12 11 (yP 12 false 13 (pO 3 J3) (yP 12 false 14 (pL J13) (yP 12 false 15 (pB .gtr fGtr J14 (gC (iI 65536))) (kP 16 (pPick J12 yV1 J15) (yM 17 16 (yP 17 false 18 (yT 0) (yP 17 false 19 (pNil J18) (yP 17 false 20 (pO 0 J19) (yP 17 false 21 (pL J20) (yP 17 false 22 (pLenS J21) (yP 17 false 23 (pB .geq fGeq J22 (gC (iI 2000))) (kP 24 (pPick J17 yV1 J23) kD)))))))))))))))))))))
 (kQ J24 (kS (kR (kP 4 yX kD)) yR) yN))
 (kS (kDraw (yM 25 0 (yM 26 0 (kP 27 (pNil J26) (kP 28 (pO 0 J27) (kP 29 (pL J28) (kP 30 (pM 5 J3) (yA 31 (m_mkslc 217 1 [yW, yI, yI, yI, yI] [(0, 5, (.t 30))]) (kOld (fun k a aw => iChk k a aw 29 none (.load none (.t 28))) (yA 32 (m_append 217 5 40 (.t 29) (.t 31)) (kP 33 (pNil J25) (kP 34 (pO 0 J33) (kM none (m_store 1 (.t 34) (.t 32)) kD)))))))))))) kD)
 (kS (kR (kP 4 yW1 kD)) yR)))), 35, [.tmp 4]⟩
def kf146 : KFn := ⟨fun z => (kS (kR (kP 4 yZ kD))
 (kS (kS (kR (yM 6 0 (kP 7 (pLenS J6) (kP 8 yZ kD))))
 (kO 0 (kLoop (kS (kR (kP 9 (pB .lss fLss J8 J7) kD))
 (kS (kQ J9 yN (kR (kEnd (.exit 0))))
 (kS (kO 1 (kS (kR (yM 10 8 (yM 5 10 kD)))
 (kS (kR (yM 11 1 (yM 12 0 (yM 13 5 (kP 14 (pIdxS 6 J12 J13) (kP 15 (pM 6 J14) (kCallv z (some 16) (.t 11) [J15] kD)))))))
 (kQ J16 (kS (kR (yM 17 5 (yM 4 17 kD))) yR) yN))))
 (kR (kP 18 (pB .add fAdd J8 yJ2) (yM 8 18 kD)))))))))
 (kS (kR (kP 4 (yC (.int .i64 (.negSucc 0))) kD)) yR))), 19, [.tmp 4]⟩
def kf147 : KFn := ⟨fun z => (kS (kR (yA 2 (m_box 31 (.t 0)) (kP 3 yX kD)))
 (kS (kR (kP 4 (pO 0 J2) (kP 5 (pL J4) (kP 6 (pL J1) (kP 7 (pB .eql fEql J5 J6) (yM 3 7 kD)))))) yR)), 8, [.tmp 3]⟩
def kf150 : KFn := ⟨fun z => (kS (kR (kP 4 yX kD))
 (kS (kR (yM 5 0 (yM 6 1 (kC z (some 7) 224 [J5, J6] (kP 8 (pB .geq fGeq J7 yI1) (yM 4 8 kD)))))) yR)), 9, [.tmp 4]⟩
def kf151 : KFn := ⟨fun z => (kS (kR (kP 4 yX kD))
 (kS (kR (yM 5 0 (yM 6 1 (kC z (some 7) 225 [J5, J6] (kP 8 (pB .geq fGeq J7 yI1) (yM 4 8 kD)))))) yR)), 9, [.tmp 4]⟩
def kf153 : KFn := ⟨fun z => (kS (kR (yA 3 (m_box 28 (.t 1)) (kP 4 yZ kD)))
 (kS (kS (kR (yM 5 0 (yA 6 (m_nileq 0 false (.t 5)) kD)))
 (kQ J6 (kS (kR (kP 4 (yC (.int .i64 (.negSucc 0))) kD)) yR) yN))
 (kS (kR (yM 7 0 (kP 8 (pNil J7) (kP 9 (pO 0 J8) (kP 10 (pL J9) (yA 11 (m_func 226 [] [(.t 3)]) (kC z (some 12) 146 [J10, J11] (yM 4 12 kD)))))))) yR))), 13, [.tmp 4]⟩
def kf154 : KFn := ⟨fun z => (kS (kR (yA 1 (m_box 31 (.t 0)) (yA 2 (m_alloc [yW, yI, yS, yI, yI, yI] 31) kD)))
 (kS (kR (kP 3 (pO 2 J1) (kP 4 (pL J3) (kC z (some 5) 87 [J4] (kP 6 (pO 2 J1) (kM none (m_store 1 (.t 6) (.t 5)) kD))))))
 (kS (kR (kP 7 (pM 6 J1) (kM none (m_store 6 (.t 2) (.t 7)) kD))) yR))), 8, [.cell 2 (some 6)]⟩
def kf155 : KFn := ⟨fun z => (kS (kR (kP 4 (yC (.ptr none)) kD))
 (kS (kS (kR (yM 5 0 (yA 6 (m_nileq 0 false (.t 5)) kD)))
 (kQ J6 (kS (kR (kP 4 (yC (.ptr none)) kD)) yR) yN))
 (kS (kR (yM 7 0 (kP 8 (pNil J7) (kP 9 (pO 4 J8) (kP 10 (pL J9) (yM 11 1 (yA 12 (m_look (.agg [(.ptr none), yI]) false (.t 10) (.t 11)) (yA 13 (m_part none 0 (.t 12)) (yM 4 13 kD))))))))) yR))), 14, [.tmp 4]⟩
def kf156 : KFn := ⟨fun z => (kS (kR (kP 4 yY kD))
 (kS (kS (kR (yM 8 0 (yA 9 (m_nileq 0 false (.t 8)) kD)))
 (kQ J9 (kS (kR (kP 4 yY kD)) yR) yN))
 (kS (kR (kP 5 yY kD))
 (kS (kS (kR (yM 10 0 (kP 11 (pNil J10) (kP 12 (pO 0 J11) (kP 13 (pL J12) (kP 14 (pLenS J13) (kP 15 yZ kD)))))))
 (kO 0 (kLoop (kS (kR (kP 16 (pB .lss fLss J15 J14) kD))
 (kS (kQ J16 yN (kR (kEnd (.exit 0))))
 (kS (kO 1 (kS (kR (kP 17 (pIdxS 5 J13 J15) (kP 18 (pM 5 J17) (yA 7 (m_alloc [yW, yI, yI, yI, yI] 217) (kM none (m_store 5 (.t 7) (.t 18)) kD)))))
 (kS (kR (yM 19 1 (kP 20 (pM 5 J7) (kCallv z (some 21) (.t 19) [J20] kD))))
 (kQ J21 (kR (yM 22 4 (kP 23 (pM 5 J7) (yA 24 (m_mkslc 217 1 [yW, yI, yI, yI, yI] [(0, 5, (.t 23))]) (yA 25 (m_append 217 5 40 (.t 22) (.t 24)) (yM 4 25 kD)))))) (kR (yM 26 5 (kP 27 (pM 5 J7) (yA 28 (m_mkslc 217 1 [yW, yI, yI, yI, yI] [(0, 5, (.t 27))]) (yA 29 (m_append 217 5 40 (.t 26) (.t 28)) (yM 5 29 kD))))))))))
 (kR (kP 30 (pB .add fAdd J15 yJ2) (yM 15 30 kD)))))))))
 (kS (kR (yM 31 0 (yM 32 5 (kP 33 (pNil J31) (kP 34 (pO 0 J33) (kM none (m_store 1 (.t 34) (.t 32)) kD))))))
 (kS (kR (yM 35 4 (yM 4 35 kD))) yR)))))), 36, [.tmp 4]⟩
def kf157 : KFn := ⟨fun z => (kS (kR (yA 2 (m_box 217 (.t 0)) (kP 3 yX kD)))
 (kS (kR (kP 4 (pO 4 J2) (kP 5 (pL J4) (kP 6 (pL J1) (kP 7 (pB .leq fLeq J5 J6) (yM 3 7 kD)))))) yR)), 8, [.tmp 3]⟩
def kf158 : KFn := ⟨fun z => (kS (kR (yM 5 0 (kP 6 (pLenS J5) (yM 4 6 kD))))
 (kR (yM 7 0 (yM 8 4 (yM 9 4 (kP 10 (pConv .u64 J9) (kC z (some 11) 228 [J10] (yM 12 1 (kC z (some 13) 227 [J7, yI1, J8, J11, J12] kD))))))))), 14, []⟩
def kf163 : KFn := ⟨fun z => (kS (kR (yA 3 (m_box 217 (.t 0)) (kP 4 yX kD)))
 (kS (kS (kR (kP 5 (pO 0 J3) (kP 6 (pL J5) (kP 7 (pL J1) (kP 8 (pB .neq fNeq J6 J7) kD)))))
 (kQ J8 (kS (kR (kP 4 yX kD)) yR) yN))
 (kS (kS (kR (kP 9 (pO 3 J3) (kP 10 (pL J9) (kP 11 (pL J2) (kP 12 (pB .gtr fGtr J10 J11) kD)))))
 (kQ J12 (kS (kR (kM none (m_store 1 (.t 2) (.c (.int .i64 (.negSucc 0)))) kD))
 (kS (kR (kP 4 yX kD)) yR)) yN))
 (kS (kR (kP 13 (pL J2) (kP 14 (pO 3 J3) (kP 15 (pL J14) (kP 16 (pB .sub fSub J13 J15) (kM none (m_store 1 (.t 2) (.t 16)) kD))))))
 (kS (kR (kP 4 yW1 kD)) yR))))), 17, [.tmp 4]⟩
def kf164 : KFn := ⟨fun z => (kS (kR (yA 3 (m_box 28 (.t 1)) (yA 4 (m_alloc [yW, yI, yS, yI, yI, yI] 31) (kP 5 yX kD))))
 (kS (kR (yM 7 0 (kP 8 (pNil J7) (kP 9 (pO 6 J8) (kP 10 (pL J9) (yA 11 (m_func 231 [] [(.t 3)]) (kC z (some 12) 146 [J10, J11] (yM 6 12 kD))))))))
 (kS (kS (kR (yM 13 6 (kP 14 (pB .lss fLss J13 yI1) kD)))
 (kQ J14 (kS (kR (yA 15 (m_build [yW, yI, yS, yI, yI, yI] []) (kM none (m_store 6 (.t 4) (.t 15)) (kP 5 yX kD)))) yR) yN))
 (kS (kR (yM 16 0 (kP 17 (pNil J16) (kP 18 (pO 6 J17) (kP 19 (pL J18) (yM 20 6 (kP 21 (pIdxS 6 J19 J20) (kP 22 (pM 6 J21) (kM none (m_store 6 (.t 4) (.t 22)) (kP 5 yW1 kD)))))))))) yR)))), 23, [.cell 4 (some 6), .tmp 5]⟩
def kf165 : KFn := ⟨fun z => (kS (kR (yA 8 (m_box 31 (.t 1)) (kP 14 yY (kP 15 yX kD))))
 (kS (kS (kR (yM 21 2 (kP 22 (pLenS J21) (kP 23 (pO 3 J8) (kP 24 (pL J23) (kP 25 (pB .neq fNeq J22 J24) kD))))))
 (kQ J25 (kS (kR (kP 14 yY (kP 15 yX kD))) yR) yN))
 (kS (kR (kP 16 yY kD))
 (kS (kS (kR (yM 26 4 (kP 27 (pLenS J26) (kP 28 yZ kD))))
 (kO 0 (kLoop (kS (kR (kP 29 (pB .lss fLss J28 J27) kD))
 (kS (kQ J29 yN (kR (kEnd (.exit 0))))
 (kS (kO 1 (kS (kR (yM 30 28 (kP 31 (pIdxS 1 J26 J28) (kP 32 (pL J31) (yM 17 30 (yM 18 32 kD))))))
 (kS (kR (yM 34 0 (kP 35 (pO 0 J8) (kP 36 (pL J35) (yM 37 2 (yM 38 3 (yM 39 18 (kC z (some 40) 232 [J34, J36, J37, J38, J39] (yM 33 40 (kP 41 (pExt 0 J33) (kP 42 (pExt 1 J33) (yM 19 41 (yM 20 42 kD)))))))))))))
 (kS (kS (kR (yM 43 20 (kP 44 (pNot J43) kD)))
 (kQ J44 (kS (kR (kP 14 yY (kP 15 yX kD))) yR) yN))
 (kR (yM 45 16 (yM 46 5 (yM 47 17 (kP 48 (pConv .u16 J47) (kP 49 (pB .add fAdd J46 J48) (yM 50 6 (kP 51 (pO 0 J8) (kP 52 (pL J51) (yM 53 18 (kP 54 (pConv .u16 J53) (yM 55 19 (yA 56 (m_build [yH, yH, yW, yH, yS] [(0, 1, (.t 49)), (1, 1, (.t 50)), (2, 1, (.t 52)), (3, 1, (.t 54)), (4, 1, (.t 55))]) (yA 57 (m_mkslc 61 1 [yH, yH, yW, yH, yS] [(0, 5, (.t 56))]) (yA 58 (m_append 61 5 40 (.t 45) (.t 57)) (yM 16 58 kD))))))))))))))))))))
 (kR (kP 59 (pB .add fAdd J28 yJ2) (yM 28 59 kD)))))))))
 (kS (kR (yM 60 16 (yM 14 60 (kP 15 yW1 kD)))) yR))))), 61, [.tmp 14, .tmp 15]⟩
def kf166 : KFn := ⟨fun z => (kS (kR (yA 1 (m_box 66 (.t 0)) (kP 2 yY (kP 3 yZ kD))))
 (kS (kDraw (kP 10 (pO 0 J1) (kP 11 (pL J10) (kC z (some 9) 172 [] (kOld (fun k a aw => iChk k a aw 11 none (.load none (.t 10))) (yA 12 (m_look (.agg [.nilFunc, .nilFunc]) true (.t 9) (.t 11)) (yM 8 12 (kP 13 (pExt 0 J8) (kP 14 (pExt 1 J8) (yA 4 (m_alloc [.nilFunc, .nilFunc] 303) (kOld (fun k a aw => iChk k a aw 12 none (.look (.agg [.nilFunc, .nilFunc]) true (.t 9) (.t 11))) (kOld (fun k a aw => iChk k a aw 11 none (.load none (.t 10))) (kM none (m_store 2 (.t 4) (.t 13)) kD)))))))))))) (yM 5 14 kD))
 (kS (kS (kR (yM 15 5 (kP 16 (pNot J15) kD)))
 (kQ J16 (kS (kR (kP 2 yY (kP 3 yJ1 kD))) yR) yN))
 (kS (kR (kP 18 (pO 0 J4) (kP 19 (pL J18) (kCallv z (some 20) (.t 19) [J1] (yM 17 20 (kP 21 (pExt 0 J17) (kP 22 (pExt 1 J17) (yM 6 21 (yM 7 22 kD)))))))))
 (kS (kS (kR (yM 23 7 (kP 24 (pB .neq fNeq J23 yI1) kD)))
 (kQ J24 (kS (kR (yM 25 7 (kP 2 yY (yM 3 25 kD)))) yR) yN))
 (kS (kR (kP 26 (pO 0 J1) (kP 27 (pL J26) (kP 28 (pConv .u8 J27) (yA 29 (m_mkslc 5 1 [yB] [(0, 1, (.t 28))]) (yM 30 6 (yA 31 (m_append 5 1 1 (.t 29) (.t 30)) (kC z (some 32) 233 [J31] (yM 2 32 (kP 3 yZ kD)))))))))) yR)))))), 33, [.tmp 2, .tmp 3]⟩
def kf167 : KFn := ⟨fun z => (kS (kR (kP 2 yZ kD))
 (kS (kR (yM 3 0 (yA 4 (m_mx (.t 3) (.c yI)) (yA 5 (m_mn (.t 4) (.c (iI 65536))) (yM 2 5 kD))))) yR)), 6, [.tmp 2]⟩
def kf168 : KFn := ⟨fun z => (kS (kR (kP 2 yZ kD))
 (kS (kR (yM 3 0 (yA 4 (m_mx (.t 3) (.c yI)) (yA 5 (m_mn (.t 4) (.c (iI 3))) (kP 6 (pB .sub fSub (gC (iI 3)) J5) (kP 7 (pShift .shl fShl yJ2 J6) (yM 2 7 kD))))))) yR)), 8, [.tmp 2]⟩
def kf169 : KFn := ⟨fun z => (kR (yM 4 0 (yM 5 0 (kP 6 (pLenS J5) (yM 7 1 (kC z (some 8) 234 [J4, J6, J7] kD)))))), 9, []⟩
def kf171 : KFn := ⟨fun z => (kS (kR (kP 2 yY (kP 3 yX kD)))
 (kS (kR (yM 5 0 (kP 6 (pLenS J5) (kP 7 (pB .sub fSub J6 (gC (iI 4))) (yM 4 7 kD)))))
 (kS (kS (kR (yM 8 4 (kP 9 (pB .lss fLss J8 yI1) (yM 10 9 (yP 10 false 11 (yT 0) (yP 10 false 12 (yT 4) (yU 10 false 13 (m_slice 1 (.t 11) none (some (.t 12)) none) (yG 10 false (some 14) (kC z (some 14) 233 [J13]) (yP 10 false 15 (yT 0) (yG 10 false (some 16) (kC z (some 16) 235 [J14, J15]) (yP 10 false 17 (pNot J16) (kP 18 (pPick J10 yV1 J17) kD))))))))))))
 (kQ J18 (kS (kR (kP 2 yY (kP 3 yX kD))) yR) yN))
 (kS (kR (yM 19 0 (yM 20 4 (yA 21 (m_slice 1 (.t 19) none (some (.t 20)) none) (kC z (some 22) 71 [J21] (yM 2 22 (kP 3 yW1 kD))))))) yR)))), 23, [.tmp 2, .tmp 3]⟩
def kf172 : KFn := ⟨fun z => (kS (kR (kP 0 (yC (.map none)) kD))
 (kS (kR (yA 1 m_mkmap (yA 2 (m_build [] []) (yA 3 (m_func 236 [(.t 2)] []) (yA 4 (m_build [] []) (yA 5 (m_func 237 [(.t 4)] []) (yA 6 (m_build [.nilFunc, .nilFunc] [(0, 1, (.t 3)), (1, 1, (.t 5))]) (kM none (m_mapset (.t 1) (.c yJ) (.t 6)) (yA 7 (m_build [.nilFunc, .nilFunc] [(0, 1, (.c (.func (.func 238) [] []))), (1, 1, (.c (.func (.func 240) [] [])))]) (kM none (m_mapset (.t 1) (.c (iI 2)) (.t 7)) (yA 8 (m_build [.nilFunc, .nilFunc] [(0, 1, (.c (.func (.func 242) [] []))), (1, 1, (.c (.func (.func 244) [] [])))]) (kM none (m_mapset (.t 1) (.c (iI 3)) (.t 8)) (yA 9 (m_build [.nilFunc, .nilFunc] [(0, 1, (.c (.func (.func 246) [] []))), (1, 1, (.c (.func (.func 248) [] [])))]) (kM none (m_mapset (.t 1) (.c (iI 4)) (.t 9)) (yM 10 1 (yM 0 10 kD)))))))))))))))) yR)), 11, [.tmp 0]⟩
def kf173 : KFn := ⟨fun z => (kS (kR (yA 4 (m_box 135 (.t 0)) (yA 5 (m_box 31 (.t 1)) (kP 8 yZ kD))))
 (kS (kO 0 (kS (kR (kP 10 (pO 2 J5) (kP 11 (pL J10) (yA 12 (m_func 250 [] [(.t 4)]) (kC z (some 13) 151 [J11, J12] (yM 9 13 kD))))))
 (kQ J9 (kS (kR (kP 8 (yC (iI 2)) kD)) yR) (kS (kR (yM 15 3 (yM 16 15 (yP 16 true 17 (pO 4 J5) (yP 16 true 18 (pL J17) (yP 16 true 19 (pO 5 J5) (yP 16 true 20 (pL J19) (yU 16 true 21 (m_mn (.t 18) (.t 20)) (yP 16 true 22 (yT 2) (yP 16 true 23 (pB .leq fLeq J21 J22) (kP 24 (pPick J16 J23 yF1) (yM 14 24 kD))))))))))))
 (kQ J14 (kS (kR (kP 8 yJ1 kD)) yR) (kS (kR (kP 26 (pO 5 J5) (kP 27 (pL J26) (yM 28 2 (kP 29 (pB .leq fLeq J27 J28) (yM 25 29 kD))))))
 (kQ J25 (kS (kR (kP 8 (yC (iI 2)) kD)) yR) yN)))))))
 (kS (kR (kP 8 yZ kD)) yR))), 30, [.tmp 8]⟩
def kf174 : KFn := ⟨fun z => (kS (kR (kP 2 yY kD))
 (kS (kS (kR (yM 3 0 (yA 4 (m_nileq 0 false (.t 3)) kD)))
 (kQ J4 (kS (kR (kP 2 yY kD)) yR) yN))
 (kS (kR (yM 5 0 (kP 6 (pNil J5) (kP 7 (pO 4 J6) (kP 8 (pL J7) (kC z (some 9) 252 [J8] (kC z (some 10) 251 [J9] (yM 2 10 kD)))))))) yR))), 11, [.tmp 2]⟩
def kf175 : KFn := ⟨fun z => (kS (kR (kP 4 yZ kD))
 (kS (kS (kR (yM 12 0 (kP 13 (pNil J12) (kP 14 (pO 5 J13) (kP 15 (pL J14) (yM 16 1 (kC z (some 17) 253 [J15, J16] (yM 11 17 (kP 18 (pExt 0 J11) (kP 19 (pExt 1 J11) (yM 5 18 (yM 6 19 kD))))))))))))
 (kS (kR (yM 20 6 kD))
 (kQ J20 (kS (kR (yM 21 5 (yM 4 21 kD))) yR) yN)))
 (kS (kR (yM 23 0 (yM 24 1 (kC z (some 25) 180 [J23, J24] (yM 22 25 (kP 26 (pExt 0 J22) (kP 27 (pExt 1 J22) (yA 7 (m_alloc [yW, yI, yS, yI, yI, yI] 31) (kM none (m_store 6 (.t 7) (.t 26)) (yM 8 27 kD))))))))))
 (kS (kDraw (kP 29 (pO 3 J7) (kP 30 (pL J29) (yM 31 0 (kP 32 (pNil J31) (kP 33 (pO 0 J32) (kP 34 (pO 0 J33) (kP 35 (pL J34) (kC z (some 36) 88 [J30, J35] (yM 28 36 (kP 37 (pExt 0 J28) (kP 38 (pExt 1 J28) (yM 9 37 kD)))))))))))) (yM 10 38 kD))
 (kS (kR (yM 39 9 (yM 4 39 kD))) yR))))), 40, [.tmp 4]⟩
def kf176 : KFn := ⟨fun z => (kS (kR (kP 2 yY (kP 3 yX kD)))
 (kS (kS (kR (yM 6 0 (yA 7 (m_nileq 0 false (.t 6)) kD)))
 (kQ J7 (kS (kR (kP 2 yY (kP 3 yX kD))) yR) yN))
 (kS (kR (yM 9 0 (kP 10 (pNil J9) (kP 11 (pO 0 J10) (kP 12 (pL J11) (kC z (some 13) 254 [J12] (yM 8 13 (kP 14 (pExt 0 J8) (kP 15 (pExt 1 J8) (yM 4 14 (yM 5 15 kD)))))))))))
 (kS (kS (kR (yM 16 5 (kP 17 (pNot J16) kD)))
 (kQ J17 (kS (kR (kP 2 yY (kP 3 yX kD))) yR) yN))
 (kS (kR (yM 18 4 (yM 19 0 (kP 20 (pNil J19) (kP 21 (pO 3 J20) (kP 22 (pL J21) (kC z (some 23) 255 [J18, J22] (kP 24 (pExt 0 J23) (kP 25 (pExt 1 J23) (yM 2 24 (yM 3 25 kD))))))))))) yR))))), 26, [.tmp 2, .tmp 3]⟩
def kf180 : KFn := ⟨fun z => (kS (kR (yA 4 (m_alloc [yW, yI, yS, yI, yI, yI] 31) (kP 5 yX kD)))
 (kS (kS (kR (yM 8 0 (kP 9 (pNil J8) (kP 10 (pO 6 J9) (kP 11 (pL J10) (kC z (some 12) 98 [J11] (kP 13 (pLenS J12) (kP 14 yZ kD))))))))
 (kO 0 (kLoop (kS (kR (kP 15 (pB .lss fLss J14 J13) kD))
 (kS (kQ J15 yN (kR (kEnd (.exit 0))))
 (kS (kO 1 (kS (kR (kP 16 (pIdxS 6 J12 J14) (kP 17 (pM 6 J16) (yA 7 (m_alloc [yW, yI, yS, yI, yI, yI] 31) (kM none (m_store 6 (.t 7) (.t 17)) kD)))))
 (kS (kR (kP 18 (pO 0 J7) (kP 19 (pL J18) (yM 20 1 (kP 21 (pB .eql fEql J19 J20) kD)))))
 (kQ J21 (kS (kR (kP 22 (pM 6 J7) (kM none (m_store 6 (.t 4) (.t 22)) (kP 5 yW1 kD)))) yR) yN))))
 (kR (kP 23 (pB .add fAdd J14 yJ2) (yM 14 23 kD)))))))))
 (kS (kR (yA 24 (m_build [yW, yI, yS, yI, yI, yI] []) (kM none (m_store 6 (.t 4) (.t 24)) (kP 5 yX kD)))) yR))), 25, [.cell 4 (some 6), .tmp 5]⟩
def kf181 : KFn := ⟨fun z => (kS (kR (kP 6 yY (kP 7 yX kD)))
 (kS (kS (kR (yM 12 2 (kP 13 (pB .lss fLss J12 yJ2) (yM 14 13 (yP 14 false 15 (yT 2) (yP 14 false 16 (pB .gtr fGtr J15 (gC (iI 32))) (kP 17 (pPick J14 yV1 J16) (yM 18 17 (yP 18 false 19 (yT 1) (yP 18 false 20 (pB .lss fLss J19 yI1) (kP 21 (pPick J18 yV1 J20) (yM 22 21 (yP 22 false 23 (yT 1) (yP 22 false 24 (yT 2) (yP 22 false 25 (pB .add fAdd J24 (gC (iI 64))) (yP 22 false 26 (pB .geq fGeq J23 J25) (kP 27 (pPick J22 yV1 J26) kD)))))))))))))))))
 (kQ J27 (kS (kR (kP 6 yY (kP 7 yX kD))) yR) yN))
 (kS (kR (yM 28 2 (yA 29 (m_mkslice 5 [yB] 1 (.t 28) (.t 28)) (yM 8 29 kD))))
 (kS (kS (kR (yM 30 1 (yM 31 2 (kP 32 (pB .lss fLss J30 J31) kD))))
 (kQ J32 (kS (kR (yM 33 8 (yM 34 1 (kP 35 (pIdxS 1 J33 J34) (kM none (m_store 1 (.t 35) (.c (iB 1))) kD)))))
 (kS (kR (yM 36 8 (yM 6 36 (kP 7 yW1 kD)))) yR)) yN))
 (kS (kR (yM 37 0 (yM 38 1 (kC z (some 39) 260 [J37, J38] (yA 40 (m_func 261 [(.t 39)] []) (yM 9 40 (kP 10 (yC yB) kD)))))))
 (kS (kS (kR (yM 41 8 (kP 42 (pLenS J41) (kP 43 yZ kD))))
 (kO 0 (kLoop (kS (kR (kP 44 (pB .lss fLss J43 J42) kD))
 (kS (kQ J44 yN (kR (kEnd (.exit 0))))
 (kS (kO 1 (kS (kR (yM 45 43 (yM 11 45 kD)))
 (kS (kR (yM 46 8 (yM 47 11 (yM 48 9 (kCallv z (some 49) (.t 48) [] (kP 50 (pIdxS 1 J46 J47) (kM none (m_store 1 (.t 50) (.t 49)) kD)))))))
 (kR (yM 51 10 (yM 52 8 (yM 53 11 (kP 54 (pIdxS 1 J52 J53) (kP 55 (pL J54) (kP 56 (pB .or fOr J51 J55) (yM 10 56 kD)))))))))))
 (kR (kP 57 (pB .add fAdd J43 yJ2) (yM 43 57 kD)))))))))
 (kS (kS (kR (yM 58 10 (kP 59 (pB .eql fEql J58 (gC yB)) kD)))
 (kQ J59 (kR (yM 60 8 (kP 61 (pIdxS 1 J60 yI1) (kM none (m_store 1 (.t 61) (.c (iB 1))) kD)))) yN))
 (kS (kR (yM 62 8 (yM 6 62 (kP 7 yW1 kD)))) yR)))))))), 63, [.tmp 6, .tmp 7]⟩
def kf182 : KFn := ⟨fun z => (kS (kR (kP 4 (yC (.int .u64 (.ofNat 0))) kD))
 (kS (kS (kR (yM 6 0 (yA 7 (m_nileq 0 false (.t 6)) kD)))
 (kQ J7 (kS (kR (kP 4 (yC (.int .u64 (.ofNat 0))) kD)) yR) yN))
 (kS (kS (kR (yM 8 0 (kP 9 (pNil J8) (kP 10 (pO 1 J9) (kP 11 (pL J10) (kP 12 (pNot J11) kD))))))
 (kQ J12 (kS (kR (yM 13 0 (yM 14 0 (yM 15 1 (kP 16 (pConv .u64 J15) (kP 17 (pB .add fAdd (gC (.int .u64 (.ofNat 65536))) J16) (kP 18 (pNil J13) (kP 19 (pO 0 J18) (kM none (m_store 1 (.t 19) (.t 17)) (kP 20 (pNil J14) (kP 21 (pO 1 J20) (kM none (m_store 1 (.t 21) (.c yV)) kD))))))))))))
 (kS (kR (yM 22 0 (kP 23 (pNil J22) (kP 24 (pO 0 J23) (kP 25 (pL J24) (yM 4 25 kD)))))) yR)) yN))
 (kS (kDraw (yM 26 0 (kP 27 (pNil J26) (kP 28 (pO 0 J27) (kP 29 (pL J28) (kP 30 (pConv .i64 J29) (yM 31 0 (kP 32 (pNil J31) (kP 33 (pO 0 J32) (kP 34 (pL J33) (kP 35 (pConv .u16 J34) (yM 36 1 (kC z (some 37) 183 [J35, J36] (kOld (fun k a aw => iChk k a aw 29 none (.load none (.t 28))) (kP 38 (pB .add fAdd J30 J37) kD)))))))))))))) (yM 5 38 kD))
 (kS (kS (kR (yM 39 5 (kP 40 (pB .lss fLss J39 yI1) kD)))
 (kQ J40 (kR (yM 41 5 (kP 42 (pB .add fAdd J41 (gC (iI 65536))) (yM 5 42 kD)))) yN))
 (kS (kR (yM 43 0 (yM 44 0 (kP 45 (pNil J44) (kP 46 (pO 0 J45) (kP 47 (pL J46) (yM 48 5 (kP 49 (pConv .u64 J48) (yA 50 (m_mx (.t 47) (.t 49)) (kP 51 (pNil J43) (kP 52 (pO 0 J51) (kM none (m_store 1 (.t 52) (.t 50)) kD))))))))))))
 (kS (kR (yM 53 5 (kP 54 (pConv .u64 J53) (yM 4 54 kD)))) yR))))))), 55, [.tmp 4]⟩
def kf183 : KFn := ⟨fun z => (kS (kR (kP 4 yZ kD))
 (kS (kR (yM 5 1 (yM 6 0 (kP 7 (pB .sub fSub J5 J6) (kP 8 (pConv .i16 J7) (kP 9 (pConv .i64 J8) (yM 4 9 kD))))))) yR)), 10, [.tmp 4]⟩
def kf184 : KFn := ⟨fun z => (kS (kR (kP 6 yX kD))
 (kS (kS (kR (yM 9 0 (yA 10 (m_nileq 0 false (.t 9)) kD)))
 (kQ J10 (kS (kR (kP 6 yX kD)) yR) yN))
 (kS (kDraw (yM 12 0 (kP 13 (pNil J12) (kP 14 (pO 1 J13) (kP 15 (pL J14) (yM 16 1 (yM 17 0 (kP 18 (pNil J17) (kP 19 (pO 2 J18) (kP 20 (pL J19) (kC z (some 21) 181 [J15, J16, J20] (yM 11 21 (kP 22 (pExt 0 J11) (kP 23 (pExt 1 J11) (yM 7 22 kD)))))))))))))) (yM 8 23 kD))
 (kS (kR (yM 24 8 (yM 25 24 (yP 25 true 26 (yT 0) (yP 25 true 27 (pNil J26) (yP 25 true 28 (pO 0 J27) (yP 25 true 29 (pL J28) (yP 25 true 30 (yT 7) (yP 25 true 31 (yT 2) (yG 25 true (some 32) (kC z (some 32) 262 [J29, J30, J31]) (kP 33 (pPick J25 J32 yF1) (yM 6 33 kD)))))))))))) yR)))), 34, [.tmp 6]⟩
def kf185 : KFn := ⟨fun z => (kS (kR (kP 8 (yC (.ptr none)) (kP 9 yX kD)))
 (kS (kR (yM 14 2 (yM 15 3 (kC z (some 16) 88 [J14, J15] (yM 13 16 (kP 17 (pExt 0 J13) (kP 18 (pExt 1 J13) (yM 10 17 (yM 11 18 kD)))))))))
 (kS (kS (kR (yM 19 11 (kP 20 (pNot J19) kD)))
 (kQ J20 (kS (kR (kP 8 (yC (.ptr none)) (kP 9 yX kD))) yR) yN))
 (kS (kR (yM 22 0 (yM 23 10 (yM 24 3 (kC z (some 25) 263 [J22, J23, J24] (yM 21 25 (kP 26 (pExt 0 J21) (kP 27 (pExt 1 J21) (yM 12 26 (yM 11 27 kD))))))))))
 (kS (kS (kR (yM 28 11 (kP 29 (pNot J28) kD)))
 (kQ J29 (kS (kR (kP 8 (yC (.ptr none)) (kP 9 yX kD))) yR) yN))
 (kS (kR (yM 30 12 (yM 31 1 (yM 32 10 (yM 33 2 (yM 34 3 (yA 35 (m_build [(.ptr none), yW, yI, yI, yI] [(0, 1, (.t 30)), (1, 1, (.t 31)), (2, 1, (.t 32)), (3, 1, (.t 33)), (4, 1, (.t 34))]) (yA 36 (m_box 357 (.t 35)) (yM 8 36 (kP 9 yW1 kD)))))))))) yR)))))), 37, [.tmp 8, .tmp 9]⟩
def kf186 : KFn := ⟨fun z => (kS (kR (yA 3 (m_box 222 (.t 1)) (kP 4 yY (kP 5 yX kD))))
 (kS (kR (kP 6 yY kD))
 (kS (kS (kR (yM 10 0 (kP 11 (pNil J10) (kP 12 (pO 4 J11) (kP 13 (pL J12) (yA 14 (m_range (.t 13)) kD))))))
 (kO 0 (kLoop (kS (kR (yA 15 (m_next (.t 14)) (kP 16 (pExt 0 J15) kD)))
 (kS (kQ J16 yN (kR (kEnd (.exit 0))))
 (kO 1 (kS (kR (yA 17 (m_entry (.t 14)) (kP 18 (pExt 0 J17) (kP 19 (pExt 1 J17) (yA 8 (m_alloc [(.ptr none), yI] 286) (yM 7 18 (kM none (m_store 2 (.t 8) (.t 19)) kD)))))))
 (kDraw (yM 20 6 (yM 21 7 (kP 22 (pO 1 J8) (kP 23 (pL J22) (kP 24 (pO 0 J8) (kP 25 (pL J24) (kC z (some 26) 187 [J25] (kOld (fun k a aw => iChk k a aw 23 none (.load none (.t 22))) (yA 27 (m_build [yW, yI, yI] [(0, 1, (.t 21)), (1, 1, (.t 23)), (2, 1, (.t 26))]) (yA 28 (m_mkslc 222 1 [yW, yI, yI] [(0, 3, (.t 27))]) (yA 29 (m_append 222 3 24 (.t 20) (.t 28)) kD))))))))))) (yM 6 29 kD)))))))))
 (kS (kR (yM 30 6 (kC z (some 31) 158 [J30, (gC (.func (.func 264) [] []))] kD)))
 (kS (kR (yM 32 0 (kC z (some 33) 266 [J32] (yM 9 33 kD))))
 (kS (kO 2 (kLoop (kS (kS (kDraw (yM 34 6 (kP 35 (pLenS J34) (yM 36 0 (kP 37 (pNil J36) (kP 38 (pO 1 J37) (kP 39 (pL J38) (kP 40 (pB .geq fGeq J35 J39) (yM 41 40 (yP 41 false 42 (yT 9) (yP 41 false 43 (pO 2 J3) (yP 41 false 44 (pL J43) (yP 41 false 45 (pB .add fAdd J42 J44) (yP 41 false 46 (yT 0) (yP 41 false 47 (pNil J46) (yP 41 false 48 (pO 2 J47) (yP 41 false 49 (pL J48) (yP 41 false 50 (pB .gtr fGtr J45 J49) (kP 51 (pPick J41 yV1 J50) kD)))))))))))))))))) kD)
 (kQ J51 yN (kR (kEnd (.exit 2)))))
 (kO 3 (kS (kS (kDraw (yM 52 6 (kP 53 (pLenS J52) (kP 54 (pB .eql fEql J53 yI1) (yM 55 54 (yP 55 false 56 (yT 6) (yP 55 false 57 (pIdxS 3 J56 yI1) (yP 55 false 58 (pM 3 J57) (yP 55 false 59 (pM 3 J3) (yG 55 false (some 60) (kC z (some 60) 265 [J58, J59]) (yP 55 false 61 (pNot J60) (kP 62 (pPick J55 yV1 J61) kD))))))))))) kD)
 (kQ J62 (kS (kR (kP 4 yY (kP 5 yX kD))) yR) yN))
 (kS (kR (yM 63 4 (yM 64 6 (kP 65 (pIdxS 3 J64 yI1) (kP 66 (pO 0 J65) (kP 67 (pL J66) (yA 68 (m_mkslc 28 1 [yW] [(0, 1, (.t 67))]) (yA 69 (m_append 28 1 4 (.t 63) (.t 68)) (yM 4 69 kD)))))))))
 (kS (kR (yM 70 9 (yM 71 6 (kP 72 (pIdxS 3 J71 yI1) (kP 73 (pO 2 J72) (kP 74 (pL J73) (kP 75 (pB .sub fSub J70 J74) (yM 9 75 kD))))))))
 (kR (yM 76 6 (yA 77 (m_slice 3 (.t 76) (some (.c yJ)) none none) (yM 6 77 kD)))))))))))
 (kS (kR (yM 78 4 (yM 4 78 (kP 5 yW1 kD)))) yR))))))), 79, [.tmp 4, .tmp 5]⟩
def kf187 : KFn := ⟨fun z => (kS (kR (kP 2 yZ kD))
 (kS (kS (kR (yM 3 0 (yA 4 (m_nileq 0 false (.t 3)) kD)))
 (kQ J4 (kS (kR (kP 2 yZ kD)) yR) yN))
 (kS (kDraw (yM 5 0 (kP 6 (pNil J5) (kP 7 (pO 2 J6) (kP 8 (pL J7) (yM 9 0 (kP 10 (pNil J9) (kP 11 (pO 4 J10) (kP 12 (pL J11) (kP 13 (pB .mul fMul J8 J12) kD))))))))) (yM 2 13 kD)) yR))), 14, [.tmp 2]⟩
def kf194 : KFn := ⟨fun z => (kR (yM 4 0 (yM 5 0 (kP 6 (pLenS J5) (yM 7 1 (kP 8 (pB .sub fSub J6 J7) (kC z (some 9) 268 [J4, J8] kD))))))), 10, []⟩
def kf224 : KFn := ⟨fun z => (kS (kR (kP 4 yZ kD))
 (kS (kS (kR (yM 6 0 (kP 7 (pLenS J6) (kP 8 yZ kD))))
 (kO 0 (kLoop (kS (kR (kP 9 (pB .lss fLss J8 J7) kD))
 (kS (kQ J9 yN (kR (kEnd (.exit 0))))
 (kS (kO 1 (kS (kR (yM 10 8 (yM 5 10 kD)))
 (kS (kR (yM 11 1 (yM 12 0 (yM 13 5 (kP 14 (pIdxS 1 J12 J13) (kP 15 (pL J14) (kP 16 (pB .eql fEql J11 J15) kD)))))))
 (kQ J16 (kS (kR (yM 17 5 (yM 4 17 kD))) yR) yN))))
 (kR (kP 18 (pB .add fAdd J8 yJ2) (yM 8 18 kD)))))))))
 (kS (kR (kP 4 (yC (.int .i64 (.negSucc 0))) kD)) yR))), 19, [.tmp 4]⟩
def kf225 : KFn := ⟨fun z => (kS (kR (kP 4 yZ kD))
 (kS (kS (kR (yM 6 0 (kP 7 (pLenS J6) (kP 8 yZ kD))))
 (kO 0 (kLoop (kS (kR (kP 9 (pB .lss fLss J8 J7) kD))
 (kS (kQ J9 yN (kR (kEnd (.exit 0))))
 (kS (kO 1 (kS (kR (yM 10 8 (yM 5 10 kD)))
 (kS (kR (yM 11 1 (yM 12 0 (yM 13 5 (kP 14 (pIdxS 1 J12 J13) (kP 15 (pL J14) (kCallv z (some 16) (.t 11) [J15] kD)))))))
 (kQ J16 (kS (kR (yM 17 5 (yM 4 17 kD))) yR) yN))))
 (kR (kP 18 (pB .add fAdd J8 yJ2) (yM 8 18 kD)))))))))
 (kS (kR (kP 4 (yC (.int .i64 (.negSucc 0))) kD)) yR))), 19, [.tmp 4]⟩
def kf226 : KFn := ⟨fun z => (kS (kR (yA 2 (m_box 31 (.t 0)) (kP 3 yX kD)))
 (kS (kR (kP 4 (pO 0 J2) (kP 5 (pL J4) (kP 6 (pL J1) (kP 7 (pB .eql fEql J5 J6) (yM 3 7 kD)))))) yR)), 8, [.tmp 3]⟩
def kf227 : KFn := ⟨fun z => (kS (kR (kP 10 yW1 kD))
 (kS (kR (kP 11 yW1 kD))
 (kO 0 (kLoop (kO 1 (kS (kR (yM 21 2 (yM 22 1 (kP 23 (pB .sub fSub J21 J22) (yM 12 23 kD)))))
 (kS (kS (kR (yM 24 12 (kP 25 (pB .leq fLeq J24 (gC (iI 12))) kD)))
 (kQ J25 (kS (kR (yM 26 0 (yM 27 1 (yM 28 2 (yM 29 4 (kC z (some 30) 294 [J26, J27, J28, J29] kD)))))) yR) yN))
 (kS (kS (kR (yM 31 3 (kP 32 (pB .eql fEql J31 yI1) kD)))
 (kQ J32 (kS (kR (yM 33 0 (yM 34 1 (yM 35 2 (yM 36 4 (kC z (some 37) 295 [J33, J34, J35, J36] kD)))))) yR) yN))
 (kS (kS (kR (yM 38 10 (kP 39 (pNot J38) kD)))
 (kQ J39 (kS (kR (yM 40 0 (yM 41 1 (yM 42 2 (yM 43 4 (kC z (some 44) 296 [J40, J41, J42, J43] kD))))))
 (kR (yM 45 3 (kP 46 (pB .sub fSub J45 yJ2) (yM 3 46 kD))))) yN))
 (kS (kR (yM 48 0 (yM 49 1 (yM 50 2 (yM 51 4 (kC z (some 52) 297 [J48, J49, J50, J51] (yM 47 52 (kP 53 (pExt 0 J47) (kP 54 (pExt 1 J47) (yM 13 53 (yM 14 54 kD)))))))))))
 (kS (kS (kR (yM 55 14 (kP 56 (pB .eql fEql J55 (gC (iI 2))) kD)))
 (kQ J56 (kS (kR (yM 57 0 (yM 58 1 (yM 59 2 (yM 60 4 (kC z (some 61) 298 [J57, J58, J59, J60] kD))))))
 (kS (kR (yM 62 2 (kP 63 (pB .sub fSub J62 yJ2) (yM 64 13 (yM 65 1 (kP 66 (pB .sub fSub J64 J65) (kP 67 (pB .sub fSub J63 J66) (yM 13 67 kD))))))))
 (kR (kP 14 yJ1 kD)))) yN))
 (kS (kS (kR (yM 68 10 (yM 69 68 (yP 69 true 70 (yT 11) (kP 71 (pPick J69 J70 yF1) (yM 72 71 (yP 72 true 73 (yT 14) (yP 72 true 74 (pB .eql fEql J73 yJ2) (kP 75 (pPick J72 J74 yF1) kD)))))))))
 (kQ J75 (kS (kR (yM 76 0 (yM 77 1 (yM 78 2 (yM 79 4 (kC z (some 80) 299 [J76, J77, J78, J79] kD))))))
 (kQ J80 yR yN)) yN))
 (kS (kS (kDraw (yM 81 1 (kP 82 (pB .gtr fGtr J81 yI1) (yM 83 82 (yP 83 true 84 (yT 4) (yP 83 true 85 (yT 0) (yP 83 true 86 (yT 1) (yP 83 true 87 (pB .sub fSub J86 yJ2) (yP 83 true 88 (pIdxS 3 J85 J87) (yP 83 true 89 (pM 3 J88) (yP 83 true 90 (yT 0) (yP 83 true 91 (yT 13) (yP 83 true 92 (pIdxS 3 J90 J91) (yP 83 true 93 (pM 3 J92) (yG 83 true (some 94) (kCallv z (some 94) (.t 84) [J89, J93]) (yP 83 true 95 (pB .lss fLss J94 yI1) (yP 83 true 96 (pNot J95) (kP 97 (pPick J83 J96 yF1) kD))))))))))))))))) kD)
 (kQ J97 (kS (kR (yM 98 0 (yM 99 1 (yM 100 2 (yM 101 13 (yM 102 4 (kC z (some 103) 300 [J98, J99, J100, J101, J102] (yM 15 103 kD))))))))
 (kS (kR (yM 104 15 (yM 1 104 kD)))
 (kR (kEnd (.exit 1))))) yN))
 (kS (kR (yM 106 0 (yM 107 1 (yM 108 2 (yM 109 13 (yM 110 4 (kC z (some 111) 301 [J106, J107, J108, J109, J110] (yM 105 111 (kP 112 (pExt 0 J105) (kP 113 (pExt 1 J105) (yM 16 112 (yM 17 113 kD))))))))))))
 (kS (kR (yM 114 17 (yM 11 114 kD)))
 (kS (kR (yM 115 16 (yM 116 1 (kP 117 (pB .sub fSub J115 J116) (yM 118 2 (yM 119 16 (kP 120 (pB .sub fSub J118 J119) (yM 18 117 (yM 19 120 kD)))))))))
 (kS (kR (yM 121 12 (kP 122 (pB .quo (iopF .quo) J121 (gC (iI 8))) (yM 20 122 kD))))
 (kS (kR (yM 123 18 (yM 124 19 (kP 125 (pB .lss fLss J123 J124) kD))))
 (kQ J125 (kS (kR (yM 126 18 (yM 127 20 (kP 128 (pB .geq fGeq J126 J127) (yM 10 128 kD)))))
 (kS (kR (yM 129 0 (yM 130 1 (yM 131 16 (yM 132 3 (yM 133 4 (kC z (some 134) 227 [J129, J130, J131, J132, J133] kD)))))))
 (kR (yM 135 16 (kP 136 (pB .add fAdd J135 yJ2) (yM 1 136 kD)))))) (kS (kR (yM 137 19 (yM 138 20 (kP 139 (pB .geq fGeq J137 J138) (yM 10 139 kD)))))
 (kS (kR (yM 140 0 (yM 141 16 (kP 142 (pB .add fAdd J141 yJ2) (yM 143 2 (yM 144 3 (yM 145 4 (kC z (some 146) 227 [J140, J142, J143, J144, J145] kD))))))))
 (kR (yM 147 16 (yM 2 147 kD)))))))))))))))))))))))), 148, []⟩
def kf228 : KFn := ⟨fun z => (kS (kR (kP 2 yZ kD))
 (kS (kQ yF1 (kS (kR (yM 3 0 (kP 4 (pConv .u32 J3) (kC z (some 5) 302 [J4] (yM 2 5 kD))))) yR) yN)
 (kS (kR (yM 6 0 (kC z (some 7) 303 [J6] (yM 2 7 kD)))) yR))), 8, [.tmp 2]⟩
def kf231 : KFn := ⟨fun z => (kS (kR (yA 2 (m_box 31 (.t 0)) (kP 3 yX kD)))
 (kS (kR (kP 4 (pO 0 J2) (kP 5 (pL J4) (kP 6 (pL J1) (kP 7 (pB .eql fEql J5 J6) (yM 3 7 kD)))))) yR)), 8, [.tmp 3]⟩
def kf232 : KFn := ⟨fun z => (kS (kR (kP 10 yY (kP 11 yX kD)))
 (kS (kR (yM 20 2 (yM 21 3 (kC z (some 22) 304 [J20, J21] (yM 19 22 (kP 23 (pExt 0 J19) (kP 24 (pExt 1 J19) (yM 12 23 (yM 13 24 kD)))))))))
 (kS (kS (kR (yM 25 0 (yA 26 (m_nileq 0 false (.t 25)) (yM 27 26 (yP 27 false 28 (yT 13) (yP 27 false 29 (pNot J28) (kP 30 (pPick J27 yV1 J29) kD)))))))
 (kQ J30 (kS (kR (kP 10 yY (kP 11 yX kD))) yR) yN))
 (kS (kR (yM 32 1 (yM 33 4 (yM 34 12 (kP 35 (pLenS J34) (kC z (some 36) 181 [J32, J33, J35] (yM 31 36 (kP 37 (pExt 0 J31) (kP 38 (pExt 1 J31) (yM 14 37 (yM 13 38 kD)))))))))))
 (kS (kS (kR (yM 39 13 (kP 40 (pNot J39) kD)))
 (kQ J40 (kS (kR (kP 10 yY (kP 11 yX kD))) yR) yN))
 (kS (kR (yM 41 3 (yA 42 (m_mkslice 5 [yB] 1 (.t 41) (.t 41)) (yM 43 0 (yA 44 (m_func 305 [(.t 43)] []) (yM 15 42 (yM 16 44 kD)))))))
 (kS (kS (kR (yM 45 14 (kP 46 (pLenS J45) (kP 47 yZ kD))))
 (kO 0 (kLoop (kS (kR (kP 48 (pB .lss fLss J47 J46) kD))
 (kS (kQ J48 yN (kR (kEnd (.exit 0))))
 (kS (kO 1 (kS (kR (yM 49 47 (kP 50 (pIdxS 1 J45 J47) (kP 51 (pL J50) (yM 17 49 (yM 18 51 kD))))))
 (kR (yM 52 16 (yM 53 15 (yM 54 12 (yM 55 17 (kP 56 (pIdxS 1 J54 J55) (kP 57 (pL J56) (yM 58 18 (kCallv z (some 59) (.t 52) [J53, J57, J58] (yM 15 59 kD))))))))))))
 (kR (kP 60 (pB .add fAdd J47 yJ2) (yM 47 60 kD)))))))))
 (kS (kR (yM 61 15 (yM 10 61 (kP 11 yW1 kD)))) yR)))))))), 62, [.tmp 10, .tmp 11]⟩
def kf233 : KFn := ⟨fun z => (kS (kR (kP 2 yY kD))
 (kS (kR (yM 4 0 (kC z (some 5) 306 [J4] (yM 3 5 kD))))
 (kS (kR (yM 6 0 (yM 7 3 (kP 8 (pShift .shr fShr J7 (gC (.int .u64 (.ofNat 24)))) (kP 9 (pConv .u8 J8) (yM 10 3 (kP 11 (pShift .shr fShr J10 (gC (.int .u64 (.ofNat 16)))) (kP 12 (pConv .u8 J11) (yM 13 3 (kP 14 (pShift .shr fShr J13 (gC (.int .u64 (.ofNat 8)))) (kP 15 (pConv .u8 J14) (yM 16 3 (kP 17 (pConv .u8 J16) (yA 18 (m_mkslc 5 4 [yB, yB, yB, yB] [(0, 1, (.t 9)), (1, 1, (.t 12)), (2, 1, (.t 15)), (3, 1, (.t 17))]) (yA 19 (m_mkslc 37 2 [yS, yS] [(0, 1, (.t 6)), (1, 1, (.t 18))]) (kC z (some 20) 307 [J19] (yM 2 20 kD))))))))))))))))) yR))), 21, [.tmp 2]⟩
def kf234 : KFn := ⟨fun z => (kS (kR (kP 6 (yC (iI 20)) kD))
 (kS (kR (yM 10 6 (kP 7 yZ (yM 8 10 kD))))
 (kS (kO 0 (kLoop (kS (kS (kR (yM 11 8 (yM 12 1 (kP 13 (pB .leq fLeq J11 J12) kD))))
 (kQ J13 yN (kR (kEnd (.exit 0)))))
 (kO 1 (kS (kR (yM 14 0 (yM 15 7 (yM 16 8 (yM 17 2 (kC z (some 18) 308 [J14, J15, J16, J17] kD))))))
 (kS (kR (yM 19 8 (yM 7 19 kD)))
 (kR (yM 20 8 (yM 21 6 (kP 22 (pB .add fAdd J20 J21) (yM 8 22 kD)))))))))))
 (kS (kR (yM 23 0 (yM 24 7 (yM 25 1 (yM 26 2 (kC z (some 27) 308 [J23, J24, J25, J26] kD))))))
 (kO 2 (kLoop (kS (kS (kR (yM 28 6 (yM 29 1 (kP 30 (pB .lss fLss J28 J29) kD))))
 (kQ J30 yN (kR (kEnd (.exit 2)))))
 (kO 3 (kS (kR (yM 31 6 (kP 32 (pB .mul fMul (gC (iI 2)) J31) (kP 7 yZ (yM 8 32 kD)))))
 (kS (kO 4 (kLoop (kS (kS (kR (yM 33 8 (yM 34 1 (kP 35 (pB .leq fLeq J33 J34) kD))))
 (kQ J35 yN (kR (kEnd (.exit 4)))))
 (kO 5 (kS (kR (yM 36 0 (yM 37 7 (yM 38 7 (yM 39 6 (kP 40 (pB .add fAdd J38 J39) (yM 41 8 (yM 42 2 (kC z (some 43) 309 [J36, J37, J40, J41, J42] kD)))))))))
 (kS (kR (yM 44 8 (yM 7 44 kD)))
 (kR (yM 45 8 (yM 46 6 (kP 47 (pB .mul fMul (gC (iI 2)) J46) (kP 48 (pB .add fAdd J45 J47) (yM 8 48 kD))))))))))))
 (kS (kS (kR (yM 49 7 (yM 50 6 (kP 51 (pB .add fAdd J49 J50) (yM 9 51 kD)))))
 (kS (kR (yM 52 9 (yM 53 1 (kP 54 (pB .lss fLss J52 J53) kD))))
 (kQ J54 (kR (yM 55 0 (yM 56 7 (yM 57 9 (yM 58 1 (yM 59 2 (kC z (some 60) 309 [J55, J56, J57, J58, J59] kD))))))) yN)))
 (kR (yM 61 6 (kP 62 (pB .mul fMul J61 (gC (iI 2))) (yM 6 62 kD))))))))))))))), 63, []⟩
def kf235 : KFn := ⟨fun z => (kS (kR (kP 4 yX kD))
 (kS (kS (kR (yM 6 0 (kP 7 (pLenS J6) (yM 8 1 (kP 9 (pLenS J8) (kP 10 (pB .neq fNeq J7 J9) kD))))))
 (kQ J10 (kS (kR (kP 4 yX kD)) yR) yN))
 (kS (kS (kR (yM 11 0 (kP 12 (pLenS J11) (kP 13 yZ kD))))
 (kO 0 (kLoop (kS (kR (kP 14 (pB .lss fLss J13 J12) kD))
 (kS (kQ J14 yN (kR (kEnd (.exit 0))))
 (kS (kO 1 (kS (kR (yM 15 13 (yM 5 15 kD)))
 (kS (kDraw (yM 16 0 (yM 17 5 (kP 18 (pIdxS 1 J16 J17) (kP 19 (pL J18) (yM 20 1 (yM 21 5 (kP 22 (pIdxS 1 J20 J21) (kP 23 (pL J22) (kP 24 (pB .neq fNeq J19 J23) kD))))))))) kD)
 (kQ J24 (kS (kR (kP 4 yX kD)) yR) yN))))
 (kR (kP 25 (pB .add fAdd J13 yJ2) (yM 13 25 kD)))))))))
 (kS (kR (kP 4 yW1 kD)) yR)))), 26, [.tmp 4]⟩
def kf236 : KFn := ⟨fun z => (kS (kR (yA 2 (m_box 346 (.t 0)) (kP 4 yY (kP 5 yZ kD))))
 (kS (kR (yM 6 1 (kP 7 (pNil J6) (kP 8 (pO 1 J7) (kP 9 (pM 5 J8) (kC z (some 10) 310 [J9] (kP 11 (pExt 0 J10) (kP 12 (pExt 1 J10) (yM 4 11 (yM 5 12 kD)))))))))) yR)), 13, [.tmp 4, .tmp 5]⟩
def kf237 : KFn := ⟨fun z => (kS (kR (yA 3 (m_box 346 (.t 0)) (kP 6 yZ kD)))
 (kS (kR (yM 8 1 (yM 9 2 (kC z (some 10) 311 [J9] (yM 7 10 (kP 11 (pExt 0 J7) (kP 12 (pExt 1 J7) (kP 13 (pNil J8) (kP 14 (pO 1 J13) (kM none (m_store 5 (.t 14) (.t 11)) (yM 6 12 kD)))))))))))
 (kS (kR (yM 15 6 (yM 6 15 kD))) yR))), 16, [.tmp 6]⟩
def kf246 : KFn := ⟨fun z => (kS (kR (kP 2 yY (kP 3 yZ kD)))
 (kS (kR (yM 4 0 (kP 5 (pNil J4) (kP 6 (pO 11 J5) (kP 7 (pL J6) (kC z (some 8) 247 [J7] (yM 2 8 (kP 3 yZ kD)))))))) yR)), 9, [.tmp 2, .tmp 3]⟩
def kf247 : KFn := ⟨fun z => (kS (kR (kP 2 yY kD))
 (kS (kR (yM 3 0 (kP 4 (pConv .u64 J3) (kC z (some 5) 312 [(gC yS), J4, (gC (iI 4))] (yM 2 5 kD))))) yR)), 6, [.tmp 2]⟩
def kf251 : KFn := ⟨fun z => (kS (kR (kP 2 yY kD))
 (kS (kR (yM 4 0 (kC z (some 5) 317 [J4] (yM 3 5 kD))))
 (kS (kR (yM 6 3 (kC z (some 7) 318 [J6] kD)))
 (kS (kR (yM 8 3 (yM 2 8 kD))) yR)))), 9, [.tmp 2]⟩
def kf252 : KFn := ⟨fun z => (kS (kR (yA 1 (m_box 189 (.t 0)) (kP 2 (yC .nilFunc) kD)))
 (kS (kR (yA 3 (m_func 319 [] [(.t 1)]) (yM 2 3 kD))) yR)), 4, [.tmp 2]⟩
def kf253 : KFn := ⟨fun z => (kS (kR (kP 4 yZ (kP 5 yX kD)))
 (kS (kR (yM 7 0 (yM 8 1 (kC z (some 9) 155 [J7, J8] (yM 6 9 kD)))))
 (kS (kR (yM 10 6 (kC z (some 11) 320 [J10] (yM 12 6 (yA 13 (m_nileq 0 true (.t 12)) (yM 4 11 (yM 5 13 kD))))))) yR))), 14, [.tmp 4, .tmp 5]⟩
def kf254 : KFn := ⟨fun z => (kS (kR (kP 2 yY (kP 3 yX kD)))
 (kS (kS (kDraw (yM 6 0 (yA 7 (m_nileq 0 false (.t 6)) (yM 8 7 (yP 8 false 9 (yT 0) (yP 8 false 11 (yT 0) (yP 8 false 12 (pNil J11) (yP 8 false 13 (pO 1 J12) (yP 8 false 14 (pL J13) (yG 8 false (some 10) (kC z (some 10) 321 [J9]) (kOld (fun k a aw => iChk k a aw 14 (some (8, false)) (.load none (.t 13))) (yP 8 false 15 (pB .lss fLss J10 J14) (kP 16 (pPick J8 yV1 J15) kD)))))))))))) kD)
 (kQ J16 (kS (kR (kP 2 yY (kP 3 yX kD))) yR) yN))
 (kS (kR (kP 4 yY kD))
 (kS (kS (kR (yM 17 0 (kP 18 (pNil J17) (kP 19 (pO 1 J18) (kP 20 (pL J19) (kP 21 yZ kD))))))
 (kO 0 (kLoop (kS (kR (kP 22 (pB .lss fLss J21 J20) kD))
 (kS (kQ J22 yN (kR (kEnd (.exit 0))))
 (kS (kO 1 (kS (kR (yM 23 21 (yM 5 23 kD)))
 (kDraw (yM 24 4 (yM 25 0 (kP 26 (pNil J25) (kP 27 (pO 3 J26) (kP 28 (pL J27) (yM 29 5 (yA 30 (m_look yS false (.t 28) (.t 29)) (yM 31 0 (kP 32 (pNil J31) (kP 33 (pO 1 J32) (kP 34 (pL J33) (yA 35 (m_slice 1 (.t 30) (some (.t 34)) none none) (kC z (some 36) 322 [J35] (yA 37 (m_mkslc 37 1 [yS] [(0, 1, (.t 36))]) (yA 38 (m_append 37 1 24 (.t 24) (.t 37)) kD))))))))))))))) (yM 4 38 kD))))
 (kR (kP 39 (pB .add fAdd J21 yJ2) (yM 21 39 kD)))))))))
 (kS (kR (yM 40 4 (yM 2 40 (kP 3 yW1 kD)))) yR))))), 41, [.tmp 2, .tmp 3]⟩
def kf255 : KFn := ⟨fun z => (kS (kR (yA 4 (m_alloc [yS] 37) (yA 5 (m_alloc [yF] 4) kD)))
 (kS (kR (yA 9 (m_func 323 [] [(.t 4), (.t 5)]) (kOld (fun k a aw => iDefer k a aw none (.t 9) []) kD)))
 (kS (kS (kR (yM 10 0 (kP 11 (pLenS J10) (kP 12 (pB .eql fEql J11 yI1) kD))))
 (kQ J12 (kS (kR (kM none (m_store 1 (.t 4) (.c yS)) (kM none (m_store 1 (.t 5) (.c yF)) kD))) yR) yN))
 (kS (kR (yM 13 0 (kC z (some 14) 324 [J13] (yM 6 14 kD))))
 (kS (kS (kR (yM 16 1 (yM 17 0 (kP 18 (pIdxS 1 J17 yI1) (kP 19 (pL J18) (kP 20 (pLenS J19) (kC z (some 21) 88 [J16, J20] (yM 15 21 (kP 22 (pExt 0 J15) (kP 23 (pExt 1 J15) (yM 7 22 (yM 8 23 kD))))))))))))
 (kS (kR (yM 24 8 (kP 25 (pNot J24) (yM 26 25 (yP 26 false 27 (yT 7) (yP 26 false 28 (yT 0) (yP 26 false 29 (pLenS J28) (yP 26 false 30 (pB .neq fNeq J27 J29) (kP 31 (pPick J26 yV1 J30) kD)))))))))
 (kQ J31 (kS (kR (kM none (m_store 1 (.t 4) (.c yS)) (kM none (m_store 1 (.t 5) (.c yF)) kD))) yR) yN)))
 (kS (kR (yM 32 6 (yM 33 1 (yA 34 (m_slice 1 (.t 32) none (some (.t 33)) none) (kC z (some 35) 71 [J34] (kM none (m_store 1 (.t 4) (.t 35)) (kM none (m_store 1 (.t 5) (.c yV)) kD))))))) yR)))))), 36, [.cell 4 none, .cell 5 none]⟩
def kf262 : KFn := ⟨fun z => (kS (kR (kP 6 yX kD))
 (kS (kS (kR (yM 15 0 (yA 16 (m_nileq 0 false (.t 15)) (yM 17 16 (yP 17 false 18 (yT 1) (yP 17 false 19 (pLenS J18) (yP 17 false 20 (yT 0) (yP 17 false 21 (pNil J20) (yP 17 false 22 (pO 1 J21) (yP 17 false 23 (pL J22) (yP 17 false 24 (pB .neq fNeq J19 J23) (kP 25 (pPick J17 yV1 J24) (yM 26 25 (yP 26 false 27 (yT 2) (yP 26 false 28 (pLenS J27) (yP 26 false 29 (yT 0) (yP 26 false 30 (pNil J29) (yP 26 false 31 (pO 2 J30) (yP 26 false 32 (pL J31) (yP 26 false 33 (pB .neq fNeq J28 J32) (kP 34 (pPick J26 yV1 J33) kD)))))))))))))))))))))
 (kQ J34 (kS (kR (kP 6 yX kD)) yR) yN))
 (kS (kR (yM 35 1 (yM 36 2 (yA 37 (m_mkslc 37 2 [yS, yS] [(0, 1, (.t 35)), (1, 1, (.t 36))]) (kC z (some 38) 307 [J37] (yM 7 38 kD))))))
 (kS (kS (kR (yM 39 0 (kP 40 (pNil J39) (kP 41 (pO 3 J40) (kP 42 (pL J41) (yA 43 (m_range (.t 42)) kD))))))
 (kO 0 (kLoop (kS (kR (yA 44 (m_next (.t 43)) (kP 45 (pExt 0 J44) kD)))
 (kS (kQ J45 yN (kR (kEnd (.exit 0))))
 (kO 1 (kS (kR (yA 46 (m_entry (.t 43)) (kP 47 (pExt 0 J46) (kP 48 (pExt 1 J46) (yM 8 47 (yM 9 48 kD))))))
 (kDraw (yM 49 0 (kP 50 (pNil J49) (kP 51 (pO 0 J50) (kP 52 (pL J51) (yM 53 7 (yM 54 9 (yM 55 7 (yM 56 8 (kP 57 (pIdxS 1 J55 J56) (kP 58 (pL J57) (kC z (some 59) 305 [J52, J53, J54, J58] kD))))))))))) (yM 7 59 kD)))))))))
 (kS (kR (yM 60 7 (yM 61 0 (kP 62 (pNil J61) (kP 63 (pO 1 J62) (kP 64 (pL J63) (yA 65 (m_slice 1 (.t 60) none (some (.t 64)) none) (kC z (some 66) 328 [J65, (gC (.func (.func 329) [] []))] (yM 10 66 kD)))))))))
 (kS (kS (kR (yM 67 10 (kP 68 (pB .lss fLss J67 yI1) kD)))
 (kQ J68 (kS (kR (kP 6 yX kD)) yR) yN))
 (kS (kDraw (yM 70 0 (kP 71 (pNil J70) (kP 72 (pO 0 J71) (kP 73 (pL J72) (yM 74 7 (yM 75 10 (kP 76 (pIdxS 1 J74 J75) (kP 77 (pL J76) (kC z (some 78) 330 [J73, J77] (yM 69 78 (kP 79 (pExt 0 J69) (kP 80 (pExt 1 J69) (yM 11 79 kD))))))))))))) (yM 12 80 kD))
 (kS (kDraw (yM 81 0 (kP 82 (pNil J81) (kP 83 (pO 0 J82) (kP 84 (pL J83) (yM 85 7 (kP 86 (pLenS J85) (yM 88 7 (yM 89 11 (yA 87 (m_mkslice 5 [yB] 1 (.t 86) (.t 86)) (kOld (fun k a aw => iChk k a aw 84 none (.load none (.t 83))) (kC z (some 90) 305 [J84, J87, J88, J89] kD))))))))))) (yM 7 90 kD))
 (kS (kS (kR (yM 91 0 (kP 92 (pNil J91) (kP 93 (pO 3 J92) (kP 94 (pL J93) (yA 95 (m_range (.t 94)) kD))))))
 (kO 2 (kLoop (kS (kR (yA 96 (m_next (.t 95)) (kP 97 (pExt 0 J96) kD)))
 (kS (kQ J97 yN (kR (kEnd (.exit 2))))
 (kO 3 (kS (kR (yA 98 (m_entry (.t 95)) (kP 99 (pExt 0 J98) (kP 100 (pExt 1 J98) (yM 13 99 (yM 14 100 kD))))))
 (kDraw (yM 101 0 (kP 102 (pNil J101) (kP 103 (pO 3 J102) (kP 104 (pL J103) (yM 105 13 (yM 106 0 (kP 107 (pNil J106) (kP 108 (pO 0 J107) (kP 109 (pL J108) (yM 110 14 (yM 111 7 (yM 112 14 (yM 113 10 (kP 114 (pIdxS 1 J112 J113) (kP 115 (pL J114) (kC z (some 116) 305 [J109, J110, J111, J115] (kOld (fun k a aw => iChk k a aw 104 none (.load none (.t 103))) kD))))))))))))))))) (kM none (m_mapset (.t 104) (.t 105) (.t 116)) kD)))))))))
 (kS (kR (yM 117 0 (kP 118 (pNil J117) (kP 119 (pO 3 J118) (kP 120 (pL J119) (yM 121 10 (yM 122 7 (kM none (m_mapset (.t 120) (.t 121) (.t 122)) kD))))))))
 (kS (kR (kP 6 yW1 kD)) yR))))))))))), 123, [.tmp 6]⟩
def kf263 : KFn := ⟨fun z => (kS (kR (kP 6 (yC (.ptr none)) (kP 7 yX kD)))
 (kS (kS (kR (yM 8 0 (yA 9 (m_nileq 0 false (.t 8)) (yM 10 9 (yP 10 false 11 (yT 1) (yP 10 false 12 (pB .lss fLss J11 yJ2) (kP 13 (pPick J10 yV1 J12) (yM 14 13 (yP 14 false 15 (yT 1) (yP 14 false 16 (pB .gtr fGtr J15 (gC (iI 32))) (kP 17 (pPick J14 yV1 J16) (yM 18 17 (yP 18 false 19 (yT 2) (yP 18 false 20 (pB .lss fLss J19 yJ2) (kP 21 (pPick J18 yV1 J20) (yM 22 21 (yP 22 false 23 (yT 2) (yP 22 false 24 (pB .gtr fGtr J23 (gC (iI 64))) (kP 25 (pPick J22 yV1 J24) kD)))))))))))))))))))
 (kQ J25 (kS (kR (kP 6 (yC (.ptr none)) (kP 7 yX kD))) yR) yN))
 (kS (kR (yM 26 0 (yM 27 1 (yM 28 2 (yA 29 m_mkmap (yA 30 (m_build [(.ptr none), yI, yI, (.map none)] [(0, 1, (.t 26)), (1, 1, (.t 27)), (2, 1, (.t 28)), (3, 1, (.t 29))]) (yA 31 (m_box 418 (.t 30)) (yM 6 31 (kP 7 yW1 kD))))))))) yR))), 32, [.tmp 6, .tmp 7]⟩
def kf266 : KFn := ⟨fun z => (kS (kR (kP 2 yZ kD))
 (kS (kS (kR (yM 5 0 (yA 6 (m_nileq 0 false (.t 5)) kD)))
 (kQ J6 (kS (kR (kP 2 yZ kD)) yR) yN))
 (kS (kS (kR (yM 7 0 (kP 8 (pNil J7) (kP 9 (pO 4 J8) (kP 10 (pL J9) (yA 11 (m_range (.t 10)) kD))))))
 (kO 0 (kLoop (kS (kR (yA 12 (m_next (.t 11)) (kP 13 (pExt 0 J12) kD)))
 (kS (kQ J13 yN (kR (kEnd (.exit 0))))
 (kO 1 (kS (kR (yA 14 (m_entry (.t 11)) (kP 15 (pExt 1 J14) (yA 4 (m_alloc [(.ptr none), yI] 286) (kM none (m_store 2 (.t 4) (.t 15)) kD)))))
 (kR (yM 16 2 (kP 17 (pO 0 J4) (kP 18 (pL J17) (kC z (some 19) 187 [J18] (kP 20 (pB .add fAdd J16 J19) (yM 2 20 kD))))))))))))))
 (kS (kR (yM 21 2 (yM 2 21 kD))) yR)))), 22, [.tmp 2]⟩
def kf268 : KFn := ⟨fun z => (kS (kR (yM 4 0 (yM 5 1 (yA 6 (m_slice 1 (.t 4) none (some (.t 5)) none) (kC z (some 7) 331 [J6] kD)))))
 (kS (kR (yM 8 0 (yM 9 1 (yA 10 (m_slice 1 (.t 8) (some (.t 9)) none none) (kC z (some 11) 331 [J10] kD)))))
 (kR (yM 12 0 (kC z (some 13) 331 [J12] kD))))), 14, []⟩
def kf294 : KFn := ⟨fun z => (kS (kR (yM 10 1 (kP 11 (pB .add fAdd J10 yJ2) (yM 8 11 kD))))
 (kO 0 (kLoop (kS (kS (kR (yM 12 8 (yM 13 2 (kP 14 (pB .lss fLss J12 J13) kD))))
 (kQ J14 yN (kR (kEnd (.exit 0)))))
 (kS (kO 1 (kS (kR (yM 17 8 (yM 9 17 kD)))
 (kO 2 (kLoop (kS (kS (kDraw (yM 18 9 (yM 19 1 (kP 20 (pB .gtr fGtr J18 J19) (yM 21 20 (yP 21 true 22 (yT 3) (yP 21 true 23 (yT 0) (yP 21 true 24 (yT 9) (yP 21 true 25 (pIdxS 3 J23 J24) (yP 21 true 26 (pM 3 J25) (yP 21 true 27 (yT 0) (yP 21 true 28 (yT 9) (yP 21 true 29 (pB .sub fSub J28 yJ2) (yP 21 true 30 (pIdxS 3 J27 J29) (yP 21 true 31 (pM 3 J30) (yG 21 true (some 32) (kCallv z (some 32) (.t 22) [J26, J31]) (yP 21 true 33 (pB .lss fLss J32 yI1) (kP 34 (pPick J21 J33 yF1) kD))))))))))))))))) kD)
 (kQ J34 yN (kR (kEnd (.exit 2)))))
 (kS (kO 3 (kDraw (yM 37 0 (yM 38 9 (yM 39 0 (yM 40 9 (kP 41 (pB .sub fSub J40 yJ2) (yM 42 0 (yM 43 9 (kP 44 (pB .sub fSub J43 yJ2) (kP 45 (pIdxS 3 J42 J44) (kP 46 (pM 3 J45) (yM 47 0 (yM 48 9 (kP 49 (pIdxS 3 J47 J48) (kP 50 (pM 3 J49) (kP 51 (pIdxS 3 J37 J38) (kM none (m_store 3 (.t 51) (.t 46)) kD)))))))))))))))) (kP 52 (pIdxS 3 J39 J41) (kM none (m_store 3 (.t 52) (.t 50)) kD))))
 (kR (yM 35 9 (kP 36 (pB .sub fSub J35 yJ2) (yM 9 36 kD))))))))))
 (kR (yM 15 8 (kP 16 (pB .add fAdd J15 yJ2) (yM 8 16 kD))))))))), 53, []⟩
def kf303 : KFn := ⟨fun z => (kS (kR (kP 2 yZ kD))
 (kS (kS (kR (yM 3 0 (kP 4 (pB .geq fGeq J3 (gC (.int .u64 (.ofNat 4294967296)))) kD)))
 (kQ J4 (kS (kR (yM 5 0 (kP 6 (pShift .shr fShr J5 (gC (.int .u64 (.ofNat 32)))) (yM 0 6 kD))))
 (kR (kP 2 (yC (iI 32)) kD))) yN))
 (kS (kS (kR (yM 7 0 (kP 8 (pB .geq fGeq J7 (gC (.int .u64 (.ofNat 65536)))) kD)))
 (kQ J8 (kS (kR (yM 9 0 (kP 10 (pShift .shr fShr J9 (gC (.int .u64 (.ofNat 16)))) (yM 0 10 kD))))
 (kR (yM 11 2 (kP 12 (pB .add fAdd J11 (gC (iI 16))) (yM 2 12 kD))))) yN))
 (kS (kS (kR (yM 13 0 (kP 14 (pB .geq fGeq J13 (gC (.int .u64 (.ofNat 256)))) kD)))
 (kQ J14 (kS (kR (yM 15 0 (kP 16 (pShift .shr fShr J15 (gC (.int .u64 (.ofNat 8)))) (yM 0 16 kD))))
 (kR (yM 17 2 (kP 18 (pB .add fAdd J17 (gC (iI 8))) (yM 2 18 kD))))) yN))
 (kS (kR (yM 19 2 (yM 20 0 (kP 21 (pConv .u8 J20) (yA 22 (m_idxT (.c (.str [yB, (iB 1), (iB 2), (iB 2), (iB 3), (iB 3), (iB 3), (iB 3), (iB 4), (iB 4), (iB 4), (iB 4), (iB 4), (iB 4), (iB 4), (iB 4), (iB 5), (iB 5), (iB 5), (iB 5), (iB 5), (iB 5), (iB 5), (iB 5), (iB 5), (iB 5), (iB 5), (iB 5), (iB 5), (iB 5), (iB 5), (iB 5), (iB 6), (iB 6), (iB 6), (iB 6), (iB 6), (iB 6), (iB 6), (iB 6), (iB 6), (iB 6), (iB 6), (iB 6), (iB 6), (iB 6), (iB 6), (iB 6), (iB 6), (iB 6), (iB 6), (iB 6), (iB 6), (iB 6), (iB 6), (iB 6), (iB 6), (iB 6), (iB 6), (iB 6), (iB 6), (iB 6), (iB 6), (iB 6), (iB 7), (iB 7), (iB 7), (iB 7), (iB 7), (iB 7), (iB 7), (iB 7), (iB 7), (iB 7), (iB 7), (iB 7), (iB 7), (iB 7), (iB 7), (iB 7), (iB 7), (iB 7), (iB 7), (iB 7), (iB 7), (iB 7), (iB 7), (iB 7), (iB 7), (iB 7), (iB 7), (iB 7), (iB 7), (iB 7), (iB 7), (iB 7), (iB 7), (iB 7), (iB 7), (iB 7), (iB 7), (iB 7), (iB 7), (iB 7), (iB 7), (iB 7), (iB 7), (iB 7), (iB 7), (iB 7), (iB 7), (iB 7), (iB 7), (iB 7), (iB 7), (iB 7), (iB 7), (iB 7), (iB 7), (iB 7), (iB 7), (iB 7), (iB 7), (iB 7), (iB 7), (iB 7), (iB 7), (iB 7), yE, yE, yE, yE, yE, yE, yE, yE, yE, yE, yE, yE, yE, yE, yE, yE, yE, yE, yE, yE, yE, yE, yE, yE, yE, yE, yE, yE, yE, yE, yE, yE, yE, yE, yE, yE, yE, yE, yE, yE, yE, yE, yE, yE, yE, yE, yE, yE, yE, yE, yE, yE, yE, yE, yE, yE, yE, yE, yE, yE, yE, yE, yE, yE, yE, yE, yE, yE, yE, yE, yE, yE, yE, yE, yE, yE, yE, yE, yE, yE, yE, yE, yE, yE, yE, yE, yE, yE, yE, yE, yE, yE, yE, yE, yE, yE, yE, yE, yE, yE, yE, yE, yE, yE, yE, yE, yE, yE, yE, yE, yE, yE, yE, yE, yE, yE, yE, yE, yE, yE, yE, yE, yE, yE, yE, yE, yE, yE])) (.t 21)) (kP 23 (pConv .i64 J22) (kP 24 (pB .add fAdd J19 J23) (yM 2 24 kD)))))))) yR))))), 25, [.tmp 2]⟩
def kf304 : KFn := ⟨fun z => (kS (kR (kP 4 yY (kP 5 yX kD)))
 (kS (kR (yM 12 0 (kP 13 (pLenS J12) (yM 14 1 (kC z (some 15) 88 [J13, J14] (yM 11 15 (kP 16 (pExt 0 J11) (kP 17 (pExt 1 J11) (yM 6 16 (yM 7 17 kD))))))))))
 (kS (kS (kR (yM 18 7 (kP 19 (pNot J18) kD)))
 (kQ J19 (kS (kR (kP 4 yY (kP 5 yX kD))) yR) yN))
 (kS (kR (kP 8 yY kD))
 (kS (kS (kR (yM 20 6 (kP 21 yZ kD)))
 (kO 0 (kLoop (kS (kR (kP 22 (pB .lss fLss J21 J20) kD))
 (kS (kQ J22 yN (kR (kEnd (.exit 0))))
 (kS (kO 1 (kS (kR (yM 23 21 (yM 9 23 kD)))
 (kS (kR (yM 24 1 (yA 25 (m_mkslice 5 [yB] 1 (.t 24) (.t 24)) (yM 10 25 kD))))
 (kS (kR (yM 26 10 (yM 27 0 (yM 28 9 (yM 29 1 (kP 30 (pB .mul fMul J28 J29) (yA 31 (m_slice 1 (.t 27) (some (.t 30)) none none) (yA 32 (m_copy 1 (.t 26) (.t 31)) kD))))))))
 (kR (yM 33 8 (yM 34 10 (yA 35 (m_mkslc 37 1 [yS] [(0, 1, (.t 34))]) (yA 36 (m_append 37 1 24 (.t 33) (.t 35)) (yM 8 36 kD))))))))))
 (kR (kP 37 (pB .add fAdd J21 yJ2) (yM 21 37 kD)))))))))
 (kS (kR (yM 38 8 (yM 4 38 (kP 5 yW1 kD)))) yR)))))), 39, [.tmp 4, .tmp 5]⟩
def kf305 : KFn := ⟨fun z => (kS (kR (kP 8 yY kD))
 (kS (kS (kR (yM 11 0 (yA 12 (m_nileq 0 false (.t 11)) kD)))
 (kQ J12 (kS (kR (kP 8 yY kD)) yR) yN))
 (kS (kR (yA 13 (m_mkslc 5 0 [] []) (yM 14 1 (yM 15 2 (kP 16 (pLenS J15) (yM 17 1 (kP 18 (pLenS J17) (yA 19 (m_mn (.t 16) (.t 18)) (yA 20 (m_slice 1 (.t 14) none (some (.t 19)) none) (yA 21 (m_append 5 1 1 (.t 13) (.t 20)) (yM 9 21 kD)))))))))))
 (kS (kS (kR (yM 22 9 (kP 23 (pLenS J22) (kP 24 yZ kD))))
 (kO 0 (kLoop (kS (kR (kP 25 (pB .lss fLss J24 J23) kD))
 (kS (kQ J25 yN (kR (kEnd (.exit 0))))
 (kS (kO 1 (kS (kR (yM 26 24 (yM 10 26 kD)))
 (kDraw (yM 27 9 (yM 28 10 (kP 29 (pIdxS 1 J27 J28) (kP 30 (pL J29) (yM 31 0 (yM 32 3 (yM 33 2 (yM 34 10 (kP 35 (pIdxS 1 J33 J34) (kP 36 (pL J35) (kC z (some 37) 350 [J31, J32, J36] (kOld (fun k a aw => iChk k a aw 30 none (.load none (.t 29))) (kP 38 (pB .xor fXor J30 J37) kD))))))))))))) (kP 39 (pIdxS 1 J27 J28) (kM none (m_store 1 (.t 39) (.t 38)) kD)))))
 (kR (kP 40 (pB .add fAdd J24 yJ2) (yM 24 40 kD)))))))))
 (kS (kR (yM 41 9 (yM 8 41 kD))) yR))))), 42, [.tmp 8]⟩
def kf306 : KFn := ⟨fun z => (kS (kR (kP 2 (yC yW) kD))
 (kS (kR (kP 3 (yC (.int .u32 (.ofNat 4294967295))) kD))
 (kS (kS (kR (yM 6 0 (kP 7 (pLenS J6) (kP 8 yZ kD))))
 (kO 0 (kLoop (kS (kR (kP 9 (pB .lss fLss J8 J7) kD))
 (kS (kQ J9 yN (kR (kEnd (.exit 0))))
 (kS (kO 1 (kS (kR (kP 10 (pIdxS 1 J6 J8) (kP 11 (pL J10) (yM 5 11 kD))))
 (kR (yM 12 3 (yM 13 5 (kC z (some 14) 351 [J12, J13] (yM 3 14 kD)))))))
 (kR (kP 15 (pB .add fAdd J8 yJ2) (yM 8 15 kD)))))))))
 (kS (kR (yM 16 3 (yM 2 16 kD))) yR)))), 17, [.tmp 2]⟩
def kf307 : KFn := ⟨fun z => (kS (kR (kP 2 yY kD))
 (kS (kR (kP 3 yZ kD))
 (kS (kS (kR (yM 9 0 (kP 10 (pLenS J9) (kP 11 yZ kD))))
 (kO 0 (kLoop (kS (kR (kP 12 (pB .lss fLss J11 J10) kD))
 (kS (kQ J12 yN (kR (kEnd (.exit 0))))
 (kS (kO 1 (kS (kR (kP 13 (pIdxS 1 J9 J11) (kP 14 (pL J13) (yM 5 14 kD))))
 (kS (kR (yM 15 3 (yM 16 5 (kP 17 (pLenS J16) (kP 18 (pB .add fAdd J15 J17) (yM 3 18 kD))))))
 (kS (kR (yM 19 3 (kP 20 (pB .lss fLss J19 yI1) kD)))
 (kQ J20 (kR (yA 21 (m_iface 9 (.c (.str [(iB 108), (iB 101), (iB 110), (iB 32), (iB 111), (iB 117), (iB 116), (iB 32), (iB 111), (iB 102), (iB 32), (iB 114), (iB 97), (iB 110), (iB 103), (iB 101)]))) (fun t n ds aw => iPanic ⟨t, n, ds⟩ aw (.t 21)))) yN)))))
 (kR (kP 22 (pB .add fAdd J11 yJ2) (yM 11 22 kD)))))))))
 (kS (kR (yM 23 3 (kC z (some 24) 352 [(gC yS), J23] (yM 6 24 kD))))
 (kS (kS (kR (yM 25 0 (kP 26 (pLenS J25) (kP 27 yZ kD))))
 (kO 2 (kLoop (kS (kR (kP 28 (pB .lss fLss J27 J26) kD))
 (kS (kQ J28 yN (kR (kEnd (.exit 2))))
 (kS (kO 3 (kS (kR (kP 29 (pIdxS 1 J25 J27) (kP 30 (pL J29) (yM 8 30 kD))))
 (kR (yM 31 6 (yM 32 8 (yA 33 (m_append 5 1 1 (.t 31) (.t 32)) (yM 6 33 kD)))))))
 (kR (kP 34 (pB .add fAdd J27 yJ2) (yM 27 34 kD)))))))))
 (kS (kR (yM 35 6 (yM 2 35 kD))) yR)))))), 36, [.tmp 2]⟩
def kf308 : KFn := ⟨fun z => (kS (kR (yM 10 1 (kP 11 (pB .add fAdd J10 yJ2) (yM 8 11 kD))))
 (kO 0 (kLoop (kS (kS (kR (yM 12 8 (yM 13 2 (kP 14 (pB .lss fLss J12 J13) kD))))
 (kQ J14 yN (kR (kEnd (.exit 0)))))
 (kS (kO 1 (kS (kR (yM 17 8 (yM 9 17 kD)))
 (kO 2 (kLoop (kS (kS (kDraw (yM 18 9 (yM 19 1 (kP 20 (pB .gtr fGtr J18 J19) (yM 21 20 (yP 21 true 22 (yT 3) (yP 21 true 23 (yT 0) (yP 21 true 24 (yT 9) (yP 21 true 25 (pIdxS 1 J23 J24) (yP 21 true 26 (pL J25) (yP 21 true 27 (yT 0) (yP 21 true 28 (yT 9) (yP 21 true 29 (pB .sub fSub J28 yJ2) (yP 21 true 30 (pIdxS 1 J27 J29) (yP 21 true 31 (pL J30) (yG 21 true (some 32) (kCallv z (some 32) (.t 22) [J26, J31]) (yP 21 true 33 (pB .lss fLss J32 yI1) (kP 34 (pPick J21 J33 yF1) kD))))))))))))))))) kD)
 (kQ J34 yN (kR (kEnd (.exit 2)))))
 (kS (kO 3 (kDraw (yM 37 0 (yM 38 9 (yM 39 0 (yM 40 9 (kP 41 (pB .sub fSub J40 yJ2) (yM 42 0 (yM 43 9 (kP 44 (pB .sub fSub J43 yJ2) (kP 45 (pIdxS 1 J42 J44) (kP 46 (pL J45) (yM 47 0 (yM 48 9 (kP 49 (pIdxS 1 J47 J48) (kP 50 (pL J49) (kP 51 (pIdxS 1 J37 J38) (kM none (m_store 1 (.t 51) (.t 46)) kD)))))))))))))))) (kP 52 (pIdxS 1 J39 J41) (kM none (m_store 1 (.t 52) (.t 50)) kD))))
 (kR (yM 35 9 (kP 36 (pB .sub fSub J35 yJ2) (yM 9 36 kD))))))))))
 (kR (yM 15 8 (kP 16 (pB .add fAdd J15 yJ2) (yM 8 16 kD))))))))), 53, []⟩
def kf310 : KFn := ⟨fun z => (kS (kR (yA 1 (m_box 61 (.t 0)) (kP 2 yY (kP 3 yZ kD))))
 (kS (kS (kR (kP 6 (pO 4 J1) (kP 7 (pL J6) (kP 8 (pLenS J7) (kC z (some 9) 354 [J8] (kP 10 (pNot J9) kD))))))
 (kQ J10 (kS (kR (kP 2 yY (kP 3 (yC (iI 4)) kD))) yR) yN))
 (kS (kR (kP 11 (pO 2 J1) (kP 12 (pL J11) (yM 4 12 kD))))
 (kS (kR (kP 13 (pO 0 J1) (kP 14 (pL J13) (kP 15 (pShift .shr fShr J14 (gC (.int .u64 (.ofNat 8)))) (kP 16 (pConv .u8 J15) (kP 17 (pO 0 J1) (kP 18 (pL J17) (kP 19 (pConv .u8 J18) (kP 20 (pO 1 J1) (kP 21 (pL J20) (kP 22 (pShift .shr fShr J21 (gC (.int .u64 (.ofNat 8)))) (kP 23 (pConv .u8 J22) (kP 24 (pO 1 J1) (kP 25 (pL J24) (kP 26 (pConv .u8 J25) (yM 27 4 (kP 28 (pShift .shr fShr J27 (gC (.int .u64 (.ofNat 24)))) (kP 29 (pConv .u8 J28) (yM 30 4 (kP 31 (pShift .shr fShr J30 (gC (.int .u64 (.ofNat 16)))) (kP 32 (pConv .u8 J31) (yM 33 4 (kP 34 (pShift .shr fShr J33 (gC (.int .u64 (.ofNat 8)))) (kP 35 (pConv .u8 J34) (yM 36 4 (kP 37 (pConv .u8 J36) (kP 38 (pO 3 J1) (kP 39 (pL J38) (kP 40 (pShift .shr fShr J39 (gC (.int .u64 (.ofNat 8)))) (kP 41 (pConv .u8 J40) (kP 42 (pO 3 J1) (kP 43 (pL J42) (kP 44 (pConv .u8 J43) (yA 45 (m_mkslc 5 10 [yB, yB, yB, yB, yB, yB, yB, yB, yB, yB] [(0, 1, (.t 16)), (1, 1, (.t 19)), (2, 1, (.t 23)), (3, 1, (.t 26)), (4, 1, (.t 29)), (5, 1, (.t 32)), (6, 1, (.t 35)), (7, 1, (.t 37)), (8, 1, (.t 41)), (9, 1, (.t 44))]) (yM 5 45 kD)))))))))))))))))))))))))))))))))))
 (kS (kR (yM 46 5 (kP 47 (pO 4 J1) (kP 48 (pL J47) (yA 49 (m_append 5 1 1 (.t 46) (.t 48)) (yM 2 49 (kP 3 yZ kD))))))) yR))))), 50, [.tmp 2, .tmp 3]⟩
def kf311 : KFn := ⟨fun z => (kS (kR (yA 2 (m_alloc [yH, yH, yW, yH, yS] 61) (yA 3 (m_alloc [yI] 32) kD)))
 (kS (kR (yA 5 (m_func 355 [] [(.t 2), (.t 3)]) (kOld (fun k a aw => iDefer k a aw none (.t 5) []) kD)))
 (kS (kS (kR (yM 6 0 (kP 7 (pLenS J6) (kP 8 (pB .sub fSub J7 (gC (iI 10))) (kC z (some 9) 354 [J8] (kP 10 (pNot J9) kD))))))
 (kQ J10 (kR (yA 11 (m_build [] []) (yA 12 (m_iface 444 (.t 11)) (fun t n ds aw => iPanic ⟨t, n, ds⟩ aw (.t 12))))) yN))
 (kS (kR (yM 13 0 (yA 14 (m_build [yS] [(0, 1, (.t 13))]) (yA 15 (m_box 447 (.t 14)) (yM 4 15 kD)))))
 (kS (kR (yM 16 4 (kC z (some 17) 356 [J16, (gC (iI 2))] (kP 18 (pConv .u16 J17) (yM 19 4 (kC z (some 20) 356 [J19, (gC (iI 2))] (kP 21 (pConv .u16 J20) (kP 22 (pO 0 J2) (kM none (m_store 1 (.t 22) (.t 18)) (kP 23 (pO 1 J2) (kM none (m_store 1 (.t 23) (.t 21)) kD)))))))))))
 (kS (kR (yM 24 4 (kC z (some 25) 356 [J24, (gC (iI 4))] (kP 26 (pConv .u32 J25) (yM 27 4 (kC z (some 28) 356 [J27, (gC (iI 2))] (kP 29 (pConv .u16 J28) (kP 30 (pO 2 J2) (kM none (m_store 1 (.t 30) (.t 26)) (kP 31 (pO 3 J2) (kM none (m_store 1 (.t 31) (.t 29)) kD)))))))))))
 (kS (kR (yM 32 4 (yM 33 4 (kP 34 (pNil J33) (kP 35 (pO 0 J34) (kP 36 (pL J35) (kP 37 (pLenS J36) (kC z (some 38) 357 [J32, J37] (kP 39 (pO 4 J2) (kM none (m_store 1 (.t 39) (.t 38)) kD))))))))))
 (kS (kR (kP 40 (pM 5 J2) (kM none (m_store 5 (.t 2) (.t 40)) (kM none (m_store 1 (.t 3) (.c yI)) kD)))) yR)))))))), 41, [.cell 2 (some 5), .cell 3 none]⟩
def kf312 : KFn := ⟨fun z => (kS (kR (kP 6 yY kD))
 (kS (kS (kR (yM 8 2 (kP 9 (pB .sub fSub J8 yJ2) (yM 7 9 kD))))
 (kO 0 (kLoop (kS (kS (kR (yM 10 7 (kP 11 (pB .geq fGeq J10 yI1) kD)))
 (kQ J11 yN (kR (kEnd (.exit 0)))))
 (kS (kO 1 (kR (yM 14 0 (yM 15 1 (yM 16 7 (kP 17 (pB .mul fMul (gC (iI 8)) J16) (kP 18 (pShift .shr fShr J15 J17) (kP 19 (pConv .u8 J18) (yA 20 (m_mkslc 5 1 [yB] [(0, 1, (.t 19))]) (yA 21 (m_append 5 1 1 (.t 14) (.t 20)) (yM 0 21 kD)))))))))))
 (kR (yM 12 7 (kP 13 (pB .sub fSub J12 yJ2) (yM 7 13 kD)))))))))
 (kS (kR (yM 22 0 (yM 6 22 kD))) yR))), 23, [.tmp 6]⟩
def kf317 : KFn := ⟨fun z => (kS (kR (kP 2 yY kD))
 (kS (kR (yM 3 0 (kC z (some 4) 358 [(gC yS), J3] (yM 2 4 kD)))) yR)), 5, [.tmp 2]⟩
def kf318 : KFn := ⟨fun z => (kS (kR (yM 3 0 (kP 4 (pLenS J3) (yM 2 4 kD))))
 (kR (yM 5 0 (yM 6 2 (yM 7 2 (kP 8 (pConv .u64 J7) (kC z (some 9) 228 [J8] (kC z (some 10) 359 [J5, yI1, J6, J9] kD)))))))), 11, []⟩
def kf320 : KFn := ⟨fun z => (kS (kR (kP 2 yZ kD))
 (kS (kS (kR (yM 3 0 (yA 4 (m_nileq 0 false (.t 3)) kD)))
 (kQ J4 (kS (kR (kP 2 yZ kD)) yR) yN))
 (kS (kDraw (yM 5 0 (kP 6 (pNil J5) (kP 7 (pO 2 J6) (kP 8 (pL J7) (yM 9 0 (kP 10 (pNil J9) (kP 11 (pO 0 J10) (kP 12 (pL J11) (kC z (some 13) 321 [J12] (kOld (fun k a aw => iChk k a aw 8 none (.load none (.t 7))) (kP 14 (pB .sub fSub J8 J13) kD))))))))))) (yM 2 14 kD)) yR))), 15, [.tmp 2]⟩
def kf321 : KFn := ⟨fun z => (kS (kR (kP 2 yZ kD))
 (kS (kS (kR (yM 3 0 (yA 4 (m_nileq 0 false (.t 3)) kD)))
 (kQ J4 (kS (kR (kP 2 yZ kD)) yR) yN))
 (kS (kR (yM 5 0 (kP 6 (pNil J5) (kP 7 (pO 3 J6) (kP 8 (pL J7) (yA 9 (m_lenM (.t 8)) (yM 2 9 kD))))))) yR))), 10, [.tmp 2]⟩
def kf322 : KFn := ⟨fun z => (kS (kR (kP 2 yY kD))
 (kS (kS (kR (yM 3 0 (yA 4 (m_nileq 1 false (.t 3)) kD)))
 (kQ J4 (kS (kR (kP 2 yY kD)) yR) yN))
 (kS (kR (yA 5 (m_mkslc 5 0 [] []) (yM 6 0 (yA 7 (m_append 5 1 1 (.t 5) (.t 6)) (yM 2 7 kD))))) yR))), 8, [.tmp 2]⟩
def kf324 : KFn := ⟨fun z => (kS (kR (kP 2 yY kD))
 (kS (kS (kR (yM 5 0 (kP 6 (pLenS J5) (kP 7 yZ kD))))
 (kO 0 (kLoop (kS (kR (kP 8 (pB .lss fLss J7 J6) kD))
 (kS (kQ J8 yN (kR (kEnd (.exit 0))))
 (kS (kO 1 (kS (kR (kP 9 (pIdxS 1 J5 J7) (kP 10 (pL J9) (yM 4 10 kD))))
 (kS (kR (yM 11 4 (kP 12 (pLenS J11) (yM 13 0 (kP 14 (pIdxS 1 J13 yI1) (kP 15 (pL J14) (kP 16 (pLenS J15) (kP 17 (pB .neq fNeq J12 J16) kD))))))))
 (kQ J17 (kR (yA 18 (m_build [] []) (yA 19 (m_iface 451 (.t 18)) (fun t n ds aw => iPanic ⟨t, n, ds⟩ aw (.t 19))))) yN))))
 (kR (kP 20 (pB .add fAdd J7 yJ2) (yM 7 20 kD)))))))))
 (kS (kR (yM 21 0 (kC z (some 22) 307 [J21] (yM 2 22 kD)))) yR))), 23, [.tmp 2]⟩
def kf328 : KFn := ⟨fun z => (kS (kR (kP 4 yZ kD))
 (kS (kS (kR (yM 6 0 (kP 7 (pLenS J6) (kP 8 yZ kD))))
 (kO 0 (kLoop (kS (kR (kP 9 (pB .lss fLss J8 J7) kD))
 (kS (kQ J9 yN (kR (kEnd (.exit 0))))
 (kS (kO 1 (kS (kR (yM 10 8 (yM 5 10 kD)))
 (kS (kR (yM 11 1 (yM 12 0 (yM 13 5 (kP 14 (pIdxS 1 J12 J13) (kP 15 (pL J14) (kCallv z (some 16) (.t 11) [J15] kD)))))))
 (kQ J16 (kS (kR (yM 17 5 (yM 4 17 kD))) yR) yN))))
 (kR (kP 18 (pB .add fAdd J8 yJ2) (yM 8 18 kD)))))))))
 (kS (kR (kP 4 (yC (.int .i64 (.negSucc 0))) kD)) yR))), 19, [.tmp 4]⟩
def kf329 : KFn := ⟨fun z => (kS (kR (kP 2 yX kD))
 (kS (kR (yM 3 0 (kP 4 (pB .neq fNeq J3 (gC yB)) (yM 2 4 kD)))) yR)), 5, [.tmp 2]⟩
def kf330 : KFn := ⟨fun z => (kS (kR (kP 4 (yC yB) (kP 5 yX kD)))
 (kS (kR (yM 6 0 (yM 7 1 (kC z (some 8) 362 [J6, (gC (iB 1)), J7] (kP 9 (pExt 0 J8) (kP 10 (pExt 1 J8) (yM 4 9 (yM 5 10 kD)))))))) yR)), 11, [.tmp 4, .tmp 5]⟩
def kf331 : KFn := ⟨fun z => (kS (kR (yM 4 0 (kP 5 (pLenS J4) (kP 6 (pB .sub fSub J5 yJ2) (kP 2 yZ (yM 3 6 kD))))))
 (kO 0 (kLoop (kS (kS (kR (yM 7 2 (yM 8 3 (kP 9 (pB .lss fLss J7 J8) kD))))
 (kQ J9 yN (kR (kEnd (.exit 0)))))
 (kS (kO 1 (kDraw (yM 14 0 (yM 15 2 (yM 16 0 (yM 17 3 (yM 18 0 (yM 19 3 (kP 20 (pIdxS 1 J18 J19) (kP 21 (pL J20) (yM 22 0 (yM 23 2 (kP 24 (pIdxS 1 J22 J23) (kP 25 (pL J24) (kP 26 (pIdxS 1 J14 J15) (kM none (m_store 1 (.t 26) (.t 21)) kD)))))))))))))) (kP 27 (pIdxS 1 J16 J17) (kM none (m_store 1 (.t 27) (.t 25)) kD))))
 (kR (yM 10 2 (kP 11 (pB .add fAdd J10 yJ2) (yM 12 3 (kP 13 (pB .sub fSub J12 yJ2) (yM 2 11 (yM 3 13 kD)))))))))))), 28, []⟩
def kf350 : KFn := ⟨fun z => (kS (kR (kP 6 (yC yB) kD))
 (kS (kS (kR (yM 7 0 (yA 8 (m_nileq 0 false (.t 7)) (yM 9 8 (yP 9 false 10 (yT 1) (yP 9 false 11 (pB .eql fEql J10 (gC yB)) (kP 12 (pPick J9 yV1 J11) (yM 13 12 (yP 13 false 14 (yT 2) (yP 13 false 15 (pB .eql fEql J14 (gC yB)) (kP 16 (pPick J13 yV1 J15) kD)))))))))))
 (kQ J16 (kS (kR (kP 6 (yC yB) kD)) yR) yN))
 (kS (kDraw (yM 17 0 (yM 18 0 (yM 19 1 (kP 20 (pNil J18) (kP 21 (pO 510 J20) (yA 22 (m_idxA 256 1 (.t 21) (.t 19)) (kP 23 (pL J22) (yM 24 0 (yM 25 2 (kP 26 (pNil J24) (kP 27 (pO 510 J26) (yA 28 (m_idxA 256 1 (.t 27) (.t 25)) (kP 29 (pL J28) (kP 30 (pB .add fAdd J23 J29) (kP 31 (pNil J17) (kP 32 (pO 0 J31) (yA 33 (m_idxA 510 1 (.t 32) (.t 30)) (kP 34 (pL J33) kD)))))))))))))))))) (yM 6 34 kD)) yR))), 35, [.tmp 6]⟩
def kf351 : KFn := ⟨fun z => (kS (kR (kP 4 (yC yW) kD))
 (kS (kR (yM 6 0 (yM 7 1 (kP 8 (pConv .u32 J7) (kP 9 (pShift .shl fShl J8 (gC (.int .u64 (.ofNat 24)))) (kP 10 (pB .xor fXor J6 J9) (yM 0 10 kD)))))))
 (kS (kS (kR (kP 11 yZ kD))
 (kO 0 (kLoop (kS (kR (kP 12 (pB .lss fLss J11 (gC (iI 8))) kD))
 (kS (kQ J12 yN (kR (kEnd (.exit 0))))
 (kS (kO 1 (kS (kR (yM 13 0 (kP 14 (pShift .shr fShr J13 (gC (.int .u64 (.ofNat 31)))) (yM 5 14 kD))))
 (kR (yM 15 0 (kP 16 (pShift .shl fShl J15 (gC (.int .u64 (.ofNat 1)))) (yM 17 5 (kP 18 (pB .mul fMul J17 (gC (.int .u32 (.ofNat 79764919)))) (kP 19 (pB .xor fXor J16 J18) (yM 0 19 kD)))))))))
 (kR (kP 20 (pB .add fAdd J11 yJ2) (yM 11 20 kD)))))))))
 (kS (kR (yM 21 0 (yM 4 21 kD))) yR)))), 22, [.tmp 4]⟩
def kf352 : KFn := ⟨fun z => (kS (kR (kP 4 yY kD))
 (kS (kS (kR (yM 5 1 (kP 6 (pB .lss fLss J5 yI1) kD)))
 (kQ J6 (kR (yA 7 (m_iface 9 (.c (.str [(iB 99), (iB 97), (iB 110), (iB 110), (iB 111), (iB 116), (iB 32), (iB 98), (iB 101), (iB 32), (iB 110), (iB 101), (iB 103), (iB 97), (iB 116), (iB 105), (iB 118), (iB 101)]))) (fun t n ds aw => iPanic ⟨t, n, ds⟩ aw (.t 7)))) yN))
 (kS (kS (kR (yM 8 1 (yM 9 0 (yA 10 (m_capS (.t 9)) (yM 11 0 (kP 12 (pLenS J11) (kP 13 (pB .sub fSub J10 J12) (kP 14 (pB .sub fSub J8 J13) (yM 1 14 kD)))))))))
 (kS (kR (yM 15 1 (kP 16 (pB .gtr fGtr J15 yI1) kD)))
 (kQ J16 (kR (yM 17 0 (yM 18 0 (yA 19 (m_capS (.t 18)) (yA 20 (m_slice 1 (.t 17) none (some (.t 19)) none) (yM 21 1 (yA 22 (m_appendZ 5 [yB] 1 (.t 20) (.t 21)) (yM 23 0 (kP 24 (pLenS J23) (yA 25 (m_slice 1 (.t 22) none (some (.t 24)) none) (yM 0 25 kD))))))))))) yN)))
 (kS (kR (yM 26 0 (yM 4 26 kD))) yR)))), 27, [.tmp 4]⟩
def kf354 : KFn := ⟨fun z => (kS (kR (kP 2 yX kD))
 (kS (kR (yM 3 0 (kP 4 (pB .geq fGeq J3 yJ2) (yM 5 4 (yP 5 true 6 (yT 0) (yP 5 true 7 (pB .leq fLeq J6 (gC (iI 64))) (kP 8 (pPick J5 J7 yF1) (yM 2 8 kD)))))))) yR)), 9, [.tmp 2]⟩
def kf356 : KFn := ⟨fun z => (kS (kR (kP 4 (yC (.int .u64 (.ofNat 0))) kD))
 (kS (kS (kR (yM 7 0 (yM 8 1 (kC z (some 9) 357 [J7, J8] (kP 10 (pLenS J9) (kP 11 yZ kD))))))
 (kO 0 (kLoop (kS (kR (kP 12 (pB .lss fLss J11 J10) kD))
 (kS (kQ J12 yN (kR (kEnd (.exit 0))))
 (kS (kO 1 (kS (kR (kP 13 (pIdxS 1 J9 J11) (kP 14 (pL J13) (yM 6 14 kD))))
 (kR (yM 15 4 (kP 16 (pShift .shl fShl J15 (gC (.int .u64 (.ofNat 8)))) (yM 17 6 (kP 18 (pConv .u64 J17) (kP 19 (pB .or fOr J16 J18) (yM 4 19 kD)))))))))
 (kR (kP 20 (pB .add fAdd J11 yJ2) (yM 11 20 kD)))))))))
 (kS (kR (yM 21 4 (yM 4 21 kD))) yR))), 22, [.tmp 4]⟩
def kf357 : KFn := ⟨fun z => (kS (kR (kP 4 yY kD))
 (kS (kS (kR (yM 6 0 (kP 7 (pNil J6) (kP 8 (pO 0 J7) (kP 9 (pL J8) (kP 10 (pLenS J9) (yM 11 1 (kP 12 (pB .lss fLss J10 J11) kD))))))))
 (kQ J12 (kR (yA 13 (m_build [] []) (yA 14 (m_iface 444 (.t 13)) (fun t n ds aw => iPanic ⟨t, n, ds⟩ aw (.t 14))))) yN))
 (kS (kR (yA 15 (m_mkslc 5 0 [] []) (yM 16 0 (kP 17 (pNil J16) (kP 18 (pO 0 J17) (kP 19 (pL J18) (yM 20 1 (yA 21 (m_slice 1 (.t 19) none (some (.t 20)) none) (yA 22 (m_append 5 1 1 (.t 15) (.t 21)) (yM 5 22 kD))))))))))
 (kS (kR (yM 23 0 (yM 24 0 (kP 25 (pNil J24) (kP 26 (pO 0 J25) (kP 27 (pL J26) (yM 28 1 (yA 29 (m_slice 1 (.t 27) (some (.t 28)) none none) (kP 30 (pNil J23) (kP 31 (pO 0 J30) (kM none (m_store 1 (.t 31) (.t 29)) kD)))))))))))
 (kS (kR (yM 32 5 (yM 4 32 kD))) yR))))), 33, [.tmp 4]⟩
def kf359 : KFn := ⟨fun z => (kS (kR (kP 8 yW1 kD))
 (kS (kR (kP 9 yW1 kD))
 (kO 0 (kLoop (kO 1 (kS (kR (yM 19 2 (yM 20 1 (kP 21 (pB .sub fSub J19 J20) (yM 10 21 kD)))))
 (kS (kS (kR (yM 22 10 (kP 23 (pB .leq fLeq J22 (gC (iI 12))) kD)))
 (kQ J23 (kS (kR (yM 24 0 (yM 25 1 (yM 26 2 (kC z (some 27) 368 [J24, J25, J26] kD))))) yR) yN))
 (kS (kS (kR (yM 28 3 (kP 29 (pB .eql fEql J28 yI1) kD)))
 (kQ J29 (kS (kR (yM 30 0 (yM 31 1 (yM 32 2 (kC z (some 33) 369 [J30, J31, J32] kD))))) yR) yN))
 (kS (kS (kR (yM 34 8 (kP 35 (pNot J34) kD)))
 (kQ J35 (kS (kR (yM 36 0 (yM 37 1 (yM 38 2 (kC z (some 39) 370 [J36, J37, J38] kD)))))
 (kR (yM 40 3 (kP 41 (pB .sub fSub J40 yJ2) (yM 3 41 kD))))) yN))
 (kS (kR (yM 43 0 (yM 44 1 (yM 45 2 (kC z (some 46) 371 [J43, J44, J45] (yM 42 46 (kP 47 (pExt 0 J42) (kP 48 (pExt 1 J42) (yM 11 47 (yM 12 48 kD))))))))))
 (kS (kS (kR (yM 49 12 (kP 50 (pB .eql fEql J49 (gC (iI 2))) kD)))
 (kQ J50 (kS (kR (yM 51 0 (yM 52 1 (yM 53 2 (kC z (some 54) 372 [J51, J52, J53] kD)))))
 (kS (kR (yM 55 2 (kP 56 (pB .sub fSub J55 yJ2) (yM 57 11 (yM 58 1 (kP 59 (pB .sub fSub J57 J58) (kP 60 (pB .sub fSub J56 J59) (yM 11 60 kD))))))))
 (kR (kP 12 yJ1 kD)))) yN))
 (kS (kS (kR (yM 61 8 (yM 62 61 (yP 62 true 63 (yT 9) (kP 64 (pPick J62 J63 yF1) (yM 65 64 (yP 65 true 66 (yT 12) (yP 65 true 67 (pB .eql fEql J66 yJ2) (kP 68 (pPick J65 J67 yF1) kD)))))))))
 (kQ J68 (kS (kR (yM 69 0 (yM 70 1 (yM 71 2 (kC z (some 72) 373 [J69, J70, J71] kD)))))
 (kQ J72 yR yN)) yN))
 (kS (kS (kDraw (yM 73 1 (kP 74 (pB .gtr fGtr J73 yI1) (yM 75 74 (yP 75 true 76 (yT 0) (yP 75 true 77 (yT 1) (yP 75 true 78 (pB .sub fSub J77 yJ2) (yP 75 true 79 (pIdxS 1 J76 J78) (yP 75 true 80 (pL J79) (yP 75 true 81 (yT 0) (yP 75 true 82 (yT 11) (yP 75 true 83 (pIdxS 1 J81 J82) (yP 75 true 84 (pL J83) (yG 75 true (some 85) (kC z (some 85) 374 [J80, J84]) (yP 75 true 86 (pNot J85) (kP 87 (pPick J75 J86 yF1) kD))))))))))))))) kD)
 (kQ J87 (kS (kR (yM 88 0 (yM 89 1 (yM 90 2 (yM 91 11 (kC z (some 92) 375 [J88, J89, J90, J91] (yM 13 92 kD)))))))
 (kS (kR (yM 93 13 (yM 1 93 kD)))
 (kR (kEnd (.exit 1))))) yN))
 (kS (kR (yM 95 0 (yM 96 1 (yM 97 2 (yM 98 11 (kC z (some 99) 376 [J95, J96, J97, J98] (yM 94 99 (kP 100 (pExt 0 J94) (kP 101 (pExt 1 J94) (yM 14 100 (yM 15 101 kD)))))))))))
 (kS (kR (yM 102 15 (yM 9 102 kD)))
 (kS (kR (yM 103 14 (yM 104 1 (kP 105 (pB .sub fSub J103 J104) (yM 106 2 (yM 107 14 (kP 108 (pB .sub fSub J106 J107) (yM 16 105 (yM 17 108 kD)))))))))
 (kS (kR (yM 109 10 (kP 110 (pB .quo (iopF .quo) J109 (gC (iI 8))) (yM 18 110 kD))))
 (kS (kR (yM 111 16 (yM 112 17 (kP 113 (pB .lss fLss J111 J112) kD))))
 (kQ J113 (kS (kR (yM 114 16 (yM 115 18 (kP 116 (pB .geq fGeq J114 J115) (yM 8 116 kD)))))
 (kS (kR (yM 117 0 (yM 118 1 (yM 119 14 (yM 120 3 (kC z (some 121) 359 [J117, J118, J119, J120] kD))))))
 (kR (yM 122 14 (kP 123 (pB .add fAdd J122 yJ2) (yM 1 123 kD)))))) (kS (kR (yM 124 17 (yM 125 18 (kP 126 (pB .geq fGeq J124 J125) (yM 8 126 kD)))))
 (kS (kR (yM 127 0 (yM 128 14 (kP 129 (pB .add fAdd J128 yJ2) (yM 130 2 (yM 131 3 (kC z (some 132) 359 [J127, J129, J130, J131] kD)))))))
 (kR (yM 133 14 (yM 2 133 kD)))))))))))))))))))))))), 134, []⟩
def kf362 : KFn := ⟨fun z => (kS (kR (kP 6 (yC yB) (kP 7 yX kD)))
 (kS (kS (kR (yM 8 0 (yA 9 (m_nileq 0 false (.t 8)) (yM 10 9 (yP 10 false 11 (yT 2) (yP 10 false 12 (pB .eql fEql J11 (gC yB)) (kP 13 (pPick J10 yV1 J12) kD)))))))
 (kQ J13 (kS (kR (kP 6 (yC yB) (kP 7 yX kD))) yR) yN))
 (kS (kS (kR (yM 14 1 (kP 15 (pB .eql fEql J14 (gC yB)) kD)))
 (kQ J15 (kS (kR (kP 6 (yC yB) (kP 7 yW1 kD))) yR) yN))
 (kS (kDraw (yM 16 0 (yM 17 0 (yM 18 1 (kP 19 (pNil J17) (kP 20 (pO 510 J19) (yA 21 (m_idxA 256 1 (.t 20) (.t 18)) (kP 22 (pL J21) (kP 23 (pB .add fAdd J22 (gC (iI 255))) (yM 24 0 (yM 25 2 (kP 26 (pNil J24) (kP 27 (pO 510 J26) (yA 28 (m_idxA 256 1 (.t 27) (.t 25)) (kP 29 (pL J28) (kP 30 (pB .sub fSub J23 J29) (kP 31 (pNil J16) (kP 32 (pO 0 J31) (yA 33 (m_idxA 510 1 (.t 32) (.t 30)) (kP 34 (pL J33) kD))))))))))))))))))) (yM 6 34 (kP 7 yW1 kD))) yR)))), 35, [.tmp 6, .tmp 7]⟩
def kf368 : KFn := ⟨fun z => (kS (kR (yM 8 1 (kP 9 (pB .add fAdd J8 yJ2) (yM 6 9 kD))))
 (kO 0 (kLoop (kS (kS (kR (yM 10 6 (yM 11 2 (kP 12 (pB .lss fLss J10 J11) kD))))
 (kQ J12 yN (kR (kEnd (.exit 0)))))
 (kS (kO 1 (kS (kR (yM 15 6 (yM 7 15 kD)))
 (kO 2 (kLoop (kS (kS (kDraw (yM 16 7 (yM 17 1 (kP 18 (pB .gtr fGtr J16 J17) (yM 19 18 (yP 19 true 20 (yT 0) (yP 19 true 21 (yT 7) (yP 19 true 22 (pIdxS 1 J20 J21) (yP 19 true 23 (pL J22) (yP 19 true 24 (yT 0) (yP 19 true 25 (yT 7) (yP 19 true 26 (pB .sub fSub J25 yJ2) (yP 19 true 27 (pIdxS 1 J24 J26) (yP 19 true 28 (pL J27) (yG 19 true (some 29) (kC z (some 29) 374 [J23, J28]) (kP 30 (pPick J19 J29 yF1) kD))))))))))))))) kD)
 (kQ J30 yN (kR (kEnd (.exit 2)))))
 (kS (kO 3 (kDraw (yM 33 0 (yM 34 7 (yM 35 0 (yM 36 7 (kP 37 (pB .sub fSub J36 yJ2) (yM 38 0 (yM 39 7 (kP 40 (pB .sub fSub J39 yJ2) (kP 41 (pIdxS 1 J38 J40) (kP 42 (pL J41) (yM 43 0 (yM 44 7 (kP 45 (pIdxS 1 J43 J44) (kP 46 (pL J45) (kP 47 (pIdxS 1 J33 J34) (kM none (m_store 1 (.t 47) (.t 42)) kD)))))))))))))))) (kP 48 (pIdxS 1 J35 J37) (kM none (m_store 1 (.t 48) (.t 46)) kD))))
 (kR (yM 31 7 (kP 32 (pB .sub fSub J31 yJ2) (yM 7 32 kD))))))))))
 (kR (yM 13 6 (kP 14 (pB .add fAdd J13 yJ2) (yM 6 14 kD))))))))), 49, []⟩
def kfTree : Tr KFn := (.node 9 kf9 (.node 12 kf12 (.node 48 kf48 (.node 64 kf64 .leaf (yL 320 kf320) .leaf .leaf) .leaf (.node 224 kf224 .leaf (yL 352 kf352) .leaf .leaf) (.node 112 kf112 (yL 304 kf304) (yL 368 kf368) (yL 176 kf176) .leaf)) (.node 52 kf52 (.node 68 kf68 .leaf (yL 324 kf324) .leaf .leaf) (yL 84 kf84) (.node 100 kf100 .leaf (yL 356 kf356) (yL 164 kf164) (yL 228 kf228)) (.node 116 kf116 (yL 308 kf308) .leaf (yL 180 kf180) .leaf)) (.node 24 kf24 (yL 328 kf328) (yL 88 kf88) (.node 104 kf104 .leaf .leaf (yL 168 kf168) (yL 232 kf232)) (.node 56 kf56 (yL 312 kf312) .leaf (yL 184 kf184) .leaf)) (.node 60 kf60 (.node 140 kf140 (yL 268 kf268) .leaf .leaf .leaf) (.node 92 kf92 .leaf .leaf (yL 156 kf156) .leaf) (.node 108 kf108 .leaf .leaf (yL 172 kf172) (yL 236 kf236)) (yL 252 kf252))) (.node 13 kf13 (.node 33 kf33 (.node 65 kf65 .leaf (yL 321 kf321) .leaf .leaf) .leaf (.node 97 kf97 .leaf .leaf .leaf (yL 225 kf225)) (.node 49 kf49 (yL 305 kf305) .leaf .leaf .leaf)) (.node 37 kf37 .leaf (yL 85 kf85) (.node 101 kf101 .leaf (yL 357 kf357) (yL 165 kf165) .leaf) (.node 53 kf53 .leaf (yL 117 kf117) (yL 181 kf181) .leaf)) (.node 25 kf25 (yL 329 kf329) (.node 89 kf89 .leaf .leaf (yL 153 kf153) .leaf) (.node 105 kf105 .leaf .leaf (yL 169 kf169) (yL 233 kf233)) (.node 57 kf57 .leaf .leaf (yL 185 kf185) .leaf)) (.node 29 kf29 (yL 141 kf141) (.node 93 kf93 .leaf .leaf (yL 157 kf157) .leaf) (.node 109 kf109 .leaf .leaf (yL 173 kf173) (yL 237 kf237)) (.node 61 kf61 (yL 317 kf317) .leaf .leaf (yL 253 kf253)))) (.node 10 kf10 (.node 34 kf34 (.node 194 kf194 .leaf (yL 322 kf322) .leaf .leaf) (yL 146 kf146) (.node 98 kf98 .leaf (yL 354 kf354) .leaf (yL 226 kf226)) (.node 50 kf50 (yL 306 kf306) (yL 114 kf114) .leaf .leaf)) (.node 22 kf22 (yL 262 kf262) (.node 86 kf86 .leaf .leaf (yL 150 kf150) .leaf) (.node 102 kf102 (yL 294 kf294) .leaf (yL 166 kf166) .leaf) (.node 54 kf54 (yL 310 kf310) (yL 118 kf118) (yL 182 kf182) (yL 246 kf246))) (.node 26 kf26 (.node 266 kf266 .leaf (yL 330 kf330) .leaf .leaf) (.node 90 kf90 .leaf .leaf (yL 154 kf154) .leaf) (.node 106 kf106 .leaf (yL 362 kf362) .leaf (yL 234 kf234)) (.node 58 kf58 .leaf .leaf (yL 186 kf186) .leaf)) (.node 62 kf62 (yL 142 kf142) (.node 94 kf94 .leaf (yL 350 kf350) (yL 158 kf158) .leaf) (.node 110 kf110 .leaf .leaf (yL 174 kf174) .leaf) (.node 254 kf254 (yL 318 kf318) .leaf .leaf .leaf))) (.node 11 kf11 (.node 35 kf35 .leaf (.node 83 kf83 .leaf .leaf (yL 147 kf147) .leaf) (.node 163 kf163 .leaf .leaf .leaf (yL 227 kf227)) (.node 51 kf51 (yL 307 kf307) (yL 115 kf115) .leaf .leaf)) (.node 23 kf23 (.node 71 kf71 (yL 263 kf263) .leaf .leaf .leaf) (.node 87 kf87 .leaf .leaf (yL 151 kf151) .leaf) (.node 103 kf103 .leaf (yL 359 kf359) (yL 167 kf167) (yL 231 kf231)) (.node 55 kf55 (yL 311 kf311) (yL 119 kf119) (yL 183 kf183) (yL 247 kf247))) (.node 27 kf27 (.node 75 kf75 .leaf (yL 331 kf331) .leaf .leaf) (.node 91 kf91 .leaf .leaf (yL 155 kf155) .leaf) (.node 107 kf107 .leaf .leaf (yL 171 kf171) (yL 235 kf235)) (.node 59 kf59 .leaf (yL 123 kf123) (yL 187 kf187) (yL 251 kf251))) (.node 63 kf63 (yL 143 kf143) (.node 95 kf95 .leaf (yL 351 kf351) .leaf .leaf) (.node 111 kf111 (yL 303 kf303) .leaf (yL 175 kf175) .leaf) (yL 255 kf255))))
end
end Go.Proofs.YtbilacojhmohmaaGreat.Ae
end
