/- TopMost answers true at every input: its pieces joined, and the statement. No condition. -/
import Derived.Test.YtbilacojhmohmaaGreatMostC0
import Derived.Test.YtbilacojhmohmaaGreatMostC1
import Derived.Test.YtbilacojhmohmaaGreatMostC2
import Derived.Test.YtbilacojhmohmaaGreatMostC3
import Derived.Test.YtbilacojhmohmaaGreatMostC4
import Derived.Test.YtbilacojhmohmaaGreatMostC5
import Derived.Test.YtbilacojhmohmaaGreatMostC6
import Derived.Test.YtbilacojhmohmaaGreatMostC7
import Derived.Test.YtbilacojhmohmaaGreatRows
import Derived.WalkKit
import Derived.ProofKit
import Derived.OpenShut
import Derived.ChangeOld
import Derived.Below
import Derived.SizedLaws
import Derived.Test.YtbilacojhmohmaaGreatMostF
import Derived.ShutString
namespace Go.Proofs.YtbilacojhmohmaaGreat.Ae
open Go
set_option linter.unusedVariables false
set_option linter.unusedSimpArgs false
theorem round_all (i : Nat) (h : i < 109) : roundOK i = true := by
  rcases Nat.lt_or_ge i 54 with h54 | h54
  · rcases Nat.lt_or_ge i 27 with h27 | h27
    · rcases Nat.lt_or_ge i 13 with h13 | h13
      · rcases Nat.lt_or_ge i 6 with h6 | h6
        · rcases Nat.lt_or_ge i 3 with h3 | h3
          · rcases Nat.lt_or_ge i 1 with h1 | h1
            · have e : i = 0 := by omega
              rw [e]; exact round_0
            · rcases Nat.lt_or_ge i 2 with h2 | h2
              · have e : i = 1 := by omega
                rw [e]; exact round_1
              · have e : i = 2 := by omega
                rw [e]; exact round_2
          · rcases Nat.lt_or_ge i 4 with h4 | h4
            · have e : i = 3 := by omega
              rw [e]; exact round_3
            · rcases Nat.lt_or_ge i 5 with h5 | h5
              · have e : i = 4 := by omega
                rw [e]; exact round_4
              · have e : i = 5 := by omega
                rw [e]; exact round_5
        · rcases Nat.lt_or_ge i 9 with h9 | h9
          · rcases Nat.lt_or_ge i 7 with h7 | h7
            · have e : i = 6 := by omega
              rw [e]; exact round_6
            · rcases Nat.lt_or_ge i 8 with h8 | h8
              · have e : i = 7 := by omega
                rw [e]; exact round_7
              · have e : i = 8 := by omega
                rw [e]; exact round_8
          · rcases Nat.lt_or_ge i 11 with h11 | h11
            · rcases Nat.lt_or_ge i 10 with h10 | h10
              · have e : i = 9 := by omega
                rw [e]; exact round_9
              · have e : i = 10 := by omega
                rw [e]; exact round_10
            · rcases Nat.lt_or_ge i 12 with h12 | h12
              · have e : i = 11 := by omega
                rw [e]; exact round_11
              · have e : i = 12 := by omega
                rw [e]; exact round_12
      · rcases Nat.lt_or_ge i 20 with h20 | h20
        · rcases Nat.lt_or_ge i 16 with h16 | h16
          · rcases Nat.lt_or_ge i 14 with h14 | h14
            · have e : i = 13 := by omega
              rw [e]; exact round_13
            · rcases Nat.lt_or_ge i 15 with h15 | h15
              · have e : i = 14 := by omega
                rw [e]; exact round_14
              · have e : i = 15 := by omega
                rw [e]; exact round_15
          · rcases Nat.lt_or_ge i 18 with h18 | h18
            · rcases Nat.lt_or_ge i 17 with h17 | h17
              · have e : i = 16 := by omega
                rw [e]; exact round_16
              · have e : i = 17 := by omega
                rw [e]; exact round_17
            · rcases Nat.lt_or_ge i 19 with h19 | h19
              · have e : i = 18 := by omega
                rw [e]; exact round_18
              · have e : i = 19 := by omega
                rw [e]; exact round_19
        · rcases Nat.lt_or_ge i 23 with h23 | h23
          · rcases Nat.lt_or_ge i 21 with h21 | h21
            · have e : i = 20 := by omega
              rw [e]; exact round_20
            · rcases Nat.lt_or_ge i 22 with h22 | h22
              · have e : i = 21 := by omega
                rw [e]; exact round_21
              · have e : i = 22 := by omega
                rw [e]; exact round_22
          · rcases Nat.lt_or_ge i 25 with h25 | h25
            · rcases Nat.lt_or_ge i 24 with h24 | h24
              · have e : i = 23 := by omega
                rw [e]; exact round_23
              · have e : i = 24 := by omega
                rw [e]; exact round_24
            · rcases Nat.lt_or_ge i 26 with h26 | h26
              · have e : i = 25 := by omega
                rw [e]; exact round_25
              · have e : i = 26 := by omega
                rw [e]; exact round_26
    · rcases Nat.lt_or_ge i 40 with h40 | h40
      · rcases Nat.lt_or_ge i 33 with h33 | h33
        · rcases Nat.lt_or_ge i 30 with h30 | h30
          · rcases Nat.lt_or_ge i 28 with h28 | h28
            · have e : i = 27 := by omega
              rw [e]; exact round_27
            · rcases Nat.lt_or_ge i 29 with h29 | h29
              · have e : i = 28 := by omega
                rw [e]; exact round_28
              · have e : i = 29 := by omega
                rw [e]; exact round_29
          · rcases Nat.lt_or_ge i 31 with h31 | h31
            · have e : i = 30 := by omega
              rw [e]; exact round_30
            · rcases Nat.lt_or_ge i 32 with h32 | h32
              · have e : i = 31 := by omega
                rw [e]; exact round_31
              · have e : i = 32 := by omega
                rw [e]; exact round_32
        · rcases Nat.lt_or_ge i 36 with h36 | h36
          · rcases Nat.lt_or_ge i 34 with h34 | h34
            · have e : i = 33 := by omega
              rw [e]; exact round_33
            · rcases Nat.lt_or_ge i 35 with h35 | h35
              · have e : i = 34 := by omega
                rw [e]; exact round_34
              · have e : i = 35 := by omega
                rw [e]; exact round_35
          · rcases Nat.lt_or_ge i 38 with h38 | h38
            · rcases Nat.lt_or_ge i 37 with h37 | h37
              · have e : i = 36 := by omega
                rw [e]; exact round_36
              · have e : i = 37 := by omega
                rw [e]; exact round_37
            · rcases Nat.lt_or_ge i 39 with h39 | h39
              · have e : i = 38 := by omega
                rw [e]; exact round_38
              · have e : i = 39 := by omega
                rw [e]; exact round_39
      · rcases Nat.lt_or_ge i 47 with h47 | h47
        · rcases Nat.lt_or_ge i 43 with h43 | h43
          · rcases Nat.lt_or_ge i 41 with h41 | h41
            · have e : i = 40 := by omega
              rw [e]; exact round_40
            · rcases Nat.lt_or_ge i 42 with h42 | h42
              · have e : i = 41 := by omega
                rw [e]; exact round_41
              · have e : i = 42 := by omega
                rw [e]; exact round_42
          · rcases Nat.lt_or_ge i 45 with h45 | h45
            · rcases Nat.lt_or_ge i 44 with h44 | h44
              · have e : i = 43 := by omega
                rw [e]; exact round_43
              · have e : i = 44 := by omega
                rw [e]; exact round_44
            · rcases Nat.lt_or_ge i 46 with h46 | h46
              · have e : i = 45 := by omega
                rw [e]; exact round_45
              · have e : i = 46 := by omega
                rw [e]; exact round_46
        · rcases Nat.lt_or_ge i 50 with h50 | h50
          · rcases Nat.lt_or_ge i 48 with h48 | h48
            · have e : i = 47 := by omega
              rw [e]; exact round_47
            · rcases Nat.lt_or_ge i 49 with h49 | h49
              · have e : i = 48 := by omega
                rw [e]; exact round_48
              · have e : i = 49 := by omega
                rw [e]; exact round_49
          · rcases Nat.lt_or_ge i 52 with h52 | h52
            · rcases Nat.lt_or_ge i 51 with h51 | h51
              · have e : i = 50 := by omega
                rw [e]; exact round_50
              · have e : i = 51 := by omega
                rw [e]; exact round_51
            · rcases Nat.lt_or_ge i 53 with h53 | h53
              · have e : i = 52 := by omega
                rw [e]; exact round_52
              · have e : i = 53 := by omega
                rw [e]; exact round_53
  · rcases Nat.lt_or_ge i 81 with h81 | h81
    · rcases Nat.lt_or_ge i 67 with h67 | h67
      · rcases Nat.lt_or_ge i 60 with h60 | h60
        · rcases Nat.lt_or_ge i 57 with h57 | h57
          · rcases Nat.lt_or_ge i 55 with h55 | h55
            · have e : i = 54 := by omega
              rw [e]; exact round_54
            · rcases Nat.lt_or_ge i 56 with h56 | h56
              · have e : i = 55 := by omega
                rw [e]; exact round_55
              · have e : i = 56 := by omega
                rw [e]; exact round_56
          · rcases Nat.lt_or_ge i 58 with h58 | h58
            · have e : i = 57 := by omega
              rw [e]; exact round_57
            · rcases Nat.lt_or_ge i 59 with h59 | h59
              · have e : i = 58 := by omega
                rw [e]; exact round_58
              · have e : i = 59 := by omega
                rw [e]; exact round_59
        · rcases Nat.lt_or_ge i 63 with h63 | h63
          · rcases Nat.lt_or_ge i 61 with h61 | h61
            · have e : i = 60 := by omega
              rw [e]; exact round_60
            · rcases Nat.lt_or_ge i 62 with h62 | h62
              · have e : i = 61 := by omega
                rw [e]; exact round_61
              · have e : i = 62 := by omega
                rw [e]; exact round_62
          · rcases Nat.lt_or_ge i 65 with h65 | h65
            · rcases Nat.lt_or_ge i 64 with h64 | h64
              · have e : i = 63 := by omega
                rw [e]; exact round_63
              · have e : i = 64 := by omega
                rw [e]; exact round_64
            · rcases Nat.lt_or_ge i 66 with h66 | h66
              · have e : i = 65 := by omega
                rw [e]; exact round_65
              · have e : i = 66 := by omega
                rw [e]; exact round_66
      · rcases Nat.lt_or_ge i 74 with h74 | h74
        · rcases Nat.lt_or_ge i 70 with h70 | h70
          · rcases Nat.lt_or_ge i 68 with h68 | h68
            · have e : i = 67 := by omega
              rw [e]; exact round_67
            · rcases Nat.lt_or_ge i 69 with h69 | h69
              · have e : i = 68 := by omega
                rw [e]; exact round_68
              · have e : i = 69 := by omega
                rw [e]; exact round_69
          · rcases Nat.lt_or_ge i 72 with h72 | h72
            · rcases Nat.lt_or_ge i 71 with h71 | h71
              · have e : i = 70 := by omega
                rw [e]; exact round_70
              · have e : i = 71 := by omega
                rw [e]; exact round_71
            · rcases Nat.lt_or_ge i 73 with h73 | h73
              · have e : i = 72 := by omega
                rw [e]; exact round_72
              · have e : i = 73 := by omega
                rw [e]; exact round_73
        · rcases Nat.lt_or_ge i 77 with h77 | h77
          · rcases Nat.lt_or_ge i 75 with h75 | h75
            · have e : i = 74 := by omega
              rw [e]; exact round_74
            · rcases Nat.lt_or_ge i 76 with h76 | h76
              · have e : i = 75 := by omega
                rw [e]; exact round_75
              · have e : i = 76 := by omega
                rw [e]; exact round_76
          · rcases Nat.lt_or_ge i 79 with h79 | h79
            · rcases Nat.lt_or_ge i 78 with h78 | h78
              · have e : i = 77 := by omega
                rw [e]; exact round_77
              · have e : i = 78 := by omega
                rw [e]; exact round_78
            · rcases Nat.lt_or_ge i 80 with h80 | h80
              · have e : i = 79 := by omega
                rw [e]; exact round_79
              · have e : i = 80 := by omega
                rw [e]; exact round_80
    · rcases Nat.lt_or_ge i 95 with h95 | h95
      · rcases Nat.lt_or_ge i 88 with h88 | h88
        · rcases Nat.lt_or_ge i 84 with h84 | h84
          · rcases Nat.lt_or_ge i 82 with h82 | h82
            · have e : i = 81 := by omega
              rw [e]; exact round_81
            · rcases Nat.lt_or_ge i 83 with h83 | h83
              · have e : i = 82 := by omega
                rw [e]; exact round_82
              · have e : i = 83 := by omega
                rw [e]; exact round_83
          · rcases Nat.lt_or_ge i 86 with h86 | h86
            · rcases Nat.lt_or_ge i 85 with h85 | h85
              · have e : i = 84 := by omega
                rw [e]; exact round_84
              · have e : i = 85 := by omega
                rw [e]; exact round_85
            · rcases Nat.lt_or_ge i 87 with h87 | h87
              · have e : i = 86 := by omega
                rw [e]; exact round_86
              · have e : i = 87 := by omega
                rw [e]; exact round_87
        · rcases Nat.lt_or_ge i 91 with h91 | h91
          · rcases Nat.lt_or_ge i 89 with h89 | h89
            · have e : i = 88 := by omega
              rw [e]; exact round_88
            · rcases Nat.lt_or_ge i 90 with h90 | h90
              · have e : i = 89 := by omega
                rw [e]; exact round_89
              · have e : i = 90 := by omega
                rw [e]; exact round_90
          · rcases Nat.lt_or_ge i 93 with h93 | h93
            · rcases Nat.lt_or_ge i 92 with h92 | h92
              · have e : i = 91 := by omega
                rw [e]; exact round_91
              · have e : i = 92 := by omega
                rw [e]; exact round_92
            · rcases Nat.lt_or_ge i 94 with h94 | h94
              · have e : i = 93 := by omega
                rw [e]; exact round_93
              · have e : i = 94 := by omega
                rw [e]; exact round_94
      · rcases Nat.lt_or_ge i 102 with h102 | h102
        · rcases Nat.lt_or_ge i 98 with h98 | h98
          · rcases Nat.lt_or_ge i 96 with h96 | h96
            · have e : i = 95 := by omega
              rw [e]; exact round_95
            · rcases Nat.lt_or_ge i 97 with h97 | h97
              · have e : i = 96 := by omega
                rw [e]; exact round_96
              · have e : i = 97 := by omega
                rw [e]; exact round_97
          · rcases Nat.lt_or_ge i 100 with h100 | h100
            · rcases Nat.lt_or_ge i 99 with h99 | h99
              · have e : i = 98 := by omega
                rw [e]; exact round_98
              · have e : i = 99 := by omega
                rw [e]; exact round_99
            · rcases Nat.lt_or_ge i 101 with h101 | h101
              · have e : i = 100 := by omega
                rw [e]; exact round_100
              · have e : i = 101 := by omega
                rw [e]; exact round_101
        · rcases Nat.lt_or_ge i 105 with h105 | h105
          · rcases Nat.lt_or_ge i 103 with h103 | h103
            · have e : i = 102 := by omega
              rw [e]; exact round_102
            · rcases Nat.lt_or_ge i 104 with h104 | h104
              · have e : i = 103 := by omega
                rw [e]; exact round_103
              · have e : i = 104 := by omega
                rw [e]; exact round_104
          · rcases Nat.lt_or_ge i 107 with h107 | h107
            · rcases Nat.lt_or_ge i 106 with h106 | h106
              · have e : i = 105 := by omega
                rw [e]; exact round_105
              · have e : i = 106 := by omega
                rw [e]; exact round_106
            · rcases Nat.lt_or_ge i 108 with h108 | h108
              · have e : i = 107 := by omega
                rw [e]; exact round_107
              · have e : i = 108 := by omega
                rw [e]; exact round_108
theorem tail_all (i : Nat) (h : i < 110) : tailOK i = true := by
  rcases Nat.lt_or_ge i 55 with h55 | h55
  · rcases Nat.lt_or_ge i 27 with h27 | h27
    · rcases Nat.lt_or_ge i 13 with h13 | h13
      · rcases Nat.lt_or_ge i 6 with h6 | h6
        · rcases Nat.lt_or_ge i 3 with h3 | h3
          · rcases Nat.lt_or_ge i 1 with h1 | h1
            · have e : i = 0 := by omega
              rw [e]; exact tail_0
            · rcases Nat.lt_or_ge i 2 with h2 | h2
              · have e : i = 1 := by omega
                rw [e]; exact tail_1
              · have e : i = 2 := by omega
                rw [e]; exact tail_2
          · rcases Nat.lt_or_ge i 4 with h4 | h4
            · have e : i = 3 := by omega
              rw [e]; exact tail_3
            · rcases Nat.lt_or_ge i 5 with h5 | h5
              · have e : i = 4 := by omega
                rw [e]; exact tail_4
              · have e : i = 5 := by omega
                rw [e]; exact tail_5
        · rcases Nat.lt_or_ge i 9 with h9 | h9
          · rcases Nat.lt_or_ge i 7 with h7 | h7
            · have e : i = 6 := by omega
              rw [e]; exact tail_6
            · rcases Nat.lt_or_ge i 8 with h8 | h8
              · have e : i = 7 := by omega
                rw [e]; exact tail_7
              · have e : i = 8 := by omega
                rw [e]; exact tail_8
          · rcases Nat.lt_or_ge i 11 with h11 | h11
            · rcases Nat.lt_or_ge i 10 with h10 | h10
              · have e : i = 9 := by omega
                rw [e]; exact tail_9
              · have e : i = 10 := by omega
                rw [e]; exact tail_10
            · rcases Nat.lt_or_ge i 12 with h12 | h12
              · have e : i = 11 := by omega
                rw [e]; exact tail_11
              · have e : i = 12 := by omega
                rw [e]; exact tail_12
      · rcases Nat.lt_or_ge i 20 with h20 | h20
        · rcases Nat.lt_or_ge i 16 with h16 | h16
          · rcases Nat.lt_or_ge i 14 with h14 | h14
            · have e : i = 13 := by omega
              rw [e]; exact tail_13
            · rcases Nat.lt_or_ge i 15 with h15 | h15
              · have e : i = 14 := by omega
                rw [e]; exact tail_14
              · have e : i = 15 := by omega
                rw [e]; exact tail_15
          · rcases Nat.lt_or_ge i 18 with h18 | h18
            · rcases Nat.lt_or_ge i 17 with h17 | h17
              · have e : i = 16 := by omega
                rw [e]; exact tail_16
              · have e : i = 17 := by omega
                rw [e]; exact tail_17
            · rcases Nat.lt_or_ge i 19 with h19 | h19
              · have e : i = 18 := by omega
                rw [e]; exact tail_18
              · have e : i = 19 := by omega
                rw [e]; exact tail_19
        · rcases Nat.lt_or_ge i 23 with h23 | h23
          · rcases Nat.lt_or_ge i 21 with h21 | h21
            · have e : i = 20 := by omega
              rw [e]; exact tail_20
            · rcases Nat.lt_or_ge i 22 with h22 | h22
              · have e : i = 21 := by omega
                rw [e]; exact tail_21
              · have e : i = 22 := by omega
                rw [e]; exact tail_22
          · rcases Nat.lt_or_ge i 25 with h25 | h25
            · rcases Nat.lt_or_ge i 24 with h24 | h24
              · have e : i = 23 := by omega
                rw [e]; exact tail_23
              · have e : i = 24 := by omega
                rw [e]; exact tail_24
            · rcases Nat.lt_or_ge i 26 with h26 | h26
              · have e : i = 25 := by omega
                rw [e]; exact tail_25
              · have e : i = 26 := by omega
                rw [e]; exact tail_26
    · rcases Nat.lt_or_ge i 41 with h41 | h41
      · rcases Nat.lt_or_ge i 34 with h34 | h34
        · rcases Nat.lt_or_ge i 30 with h30 | h30
          · rcases Nat.lt_or_ge i 28 with h28 | h28
            · have e : i = 27 := by omega
              rw [e]; exact tail_27
            · rcases Nat.lt_or_ge i 29 with h29 | h29
              · have e : i = 28 := by omega
                rw [e]; exact tail_28
              · have e : i = 29 := by omega
                rw [e]; exact tail_29
          · rcases Nat.lt_or_ge i 32 with h32 | h32
            · rcases Nat.lt_or_ge i 31 with h31 | h31
              · have e : i = 30 := by omega
                rw [e]; exact tail_30
              · have e : i = 31 := by omega
                rw [e]; exact tail_31
            · rcases Nat.lt_or_ge i 33 with h33 | h33
              · have e : i = 32 := by omega
                rw [e]; exact tail_32
              · have e : i = 33 := by omega
                rw [e]; exact tail_33
        · rcases Nat.lt_or_ge i 37 with h37 | h37
          · rcases Nat.lt_or_ge i 35 with h35 | h35
            · have e : i = 34 := by omega
              rw [e]; exact tail_34
            · rcases Nat.lt_or_ge i 36 with h36 | h36
              · have e : i = 35 := by omega
                rw [e]; exact tail_35
              · have e : i = 36 := by omega
                rw [e]; exact tail_36
          · rcases Nat.lt_or_ge i 39 with h39 | h39
            · rcases Nat.lt_or_ge i 38 with h38 | h38
              · have e : i = 37 := by omega
                rw [e]; exact tail_37
              · have e : i = 38 := by omega
                rw [e]; exact tail_38
            · rcases Nat.lt_or_ge i 40 with h40 | h40
              · have e : i = 39 := by omega
                rw [e]; exact tail_39
              · have e : i = 40 := by omega
                rw [e]; exact tail_40
      · rcases Nat.lt_or_ge i 48 with h48 | h48
        · rcases Nat.lt_or_ge i 44 with h44 | h44
          · rcases Nat.lt_or_ge i 42 with h42 | h42
            · have e : i = 41 := by omega
              rw [e]; exact tail_41
            · rcases Nat.lt_or_ge i 43 with h43 | h43
              · have e : i = 42 := by omega
                rw [e]; exact tail_42
              · have e : i = 43 := by omega
                rw [e]; exact tail_43
          · rcases Nat.lt_or_ge i 46 with h46 | h46
            · rcases Nat.lt_or_ge i 45 with h45 | h45
              · have e : i = 44 := by omega
                rw [e]; exact tail_44
              · have e : i = 45 := by omega
                rw [e]; exact tail_45
            · rcases Nat.lt_or_ge i 47 with h47 | h47
              · have e : i = 46 := by omega
                rw [e]; exact tail_46
              · have e : i = 47 := by omega
                rw [e]; exact tail_47
        · rcases Nat.lt_or_ge i 51 with h51 | h51
          · rcases Nat.lt_or_ge i 49 with h49 | h49
            · have e : i = 48 := by omega
              rw [e]; exact tail_48
            · rcases Nat.lt_or_ge i 50 with h50 | h50
              · have e : i = 49 := by omega
                rw [e]; exact tail_49
              · have e : i = 50 := by omega
                rw [e]; exact tail_50
          · rcases Nat.lt_or_ge i 53 with h53 | h53
            · rcases Nat.lt_or_ge i 52 with h52 | h52
              · have e : i = 51 := by omega
                rw [e]; exact tail_51
              · have e : i = 52 := by omega
                rw [e]; exact tail_52
            · rcases Nat.lt_or_ge i 54 with h54 | h54
              · have e : i = 53 := by omega
                rw [e]; exact tail_53
              · have e : i = 54 := by omega
                rw [e]; exact tail_54
  · rcases Nat.lt_or_ge i 82 with h82 | h82
    · rcases Nat.lt_or_ge i 68 with h68 | h68
      · rcases Nat.lt_or_ge i 61 with h61 | h61
        · rcases Nat.lt_or_ge i 58 with h58 | h58
          · rcases Nat.lt_or_ge i 56 with h56 | h56
            · have e : i = 55 := by omega
              rw [e]; exact tail_55
            · rcases Nat.lt_or_ge i 57 with h57 | h57
              · have e : i = 56 := by omega
                rw [e]; exact tail_56
              · have e : i = 57 := by omega
                rw [e]; exact tail_57
          · rcases Nat.lt_or_ge i 59 with h59 | h59
            · have e : i = 58 := by omega
              rw [e]; exact tail_58
            · rcases Nat.lt_or_ge i 60 with h60 | h60
              · have e : i = 59 := by omega
                rw [e]; exact tail_59
              · have e : i = 60 := by omega
                rw [e]; exact tail_60
        · rcases Nat.lt_or_ge i 64 with h64 | h64
          · rcases Nat.lt_or_ge i 62 with h62 | h62
            · have e : i = 61 := by omega
              rw [e]; exact tail_61
            · rcases Nat.lt_or_ge i 63 with h63 | h63
              · have e : i = 62 := by omega
                rw [e]; exact tail_62
              · have e : i = 63 := by omega
                rw [e]; exact tail_63
          · rcases Nat.lt_or_ge i 66 with h66 | h66
            · rcases Nat.lt_or_ge i 65 with h65 | h65
              · have e : i = 64 := by omega
                rw [e]; exact tail_64
              · have e : i = 65 := by omega
                rw [e]; exact tail_65
            · rcases Nat.lt_or_ge i 67 with h67 | h67
              · have e : i = 66 := by omega
                rw [e]; exact tail_66
              · have e : i = 67 := by omega
                rw [e]; exact tail_67
      · rcases Nat.lt_or_ge i 75 with h75 | h75
        · rcases Nat.lt_or_ge i 71 with h71 | h71
          · rcases Nat.lt_or_ge i 69 with h69 | h69
            · have e : i = 68 := by omega
              rw [e]; exact tail_68
            · rcases Nat.lt_or_ge i 70 with h70 | h70
              · have e : i = 69 := by omega
                rw [e]; exact tail_69
              · have e : i = 70 := by omega
                rw [e]; exact tail_70
          · rcases Nat.lt_or_ge i 73 with h73 | h73
            · rcases Nat.lt_or_ge i 72 with h72 | h72
              · have e : i = 71 := by omega
                rw [e]; exact tail_71
              · have e : i = 72 := by omega
                rw [e]; exact tail_72
            · rcases Nat.lt_or_ge i 74 with h74 | h74
              · have e : i = 73 := by omega
                rw [e]; exact tail_73
              · have e : i = 74 := by omega
                rw [e]; exact tail_74
        · rcases Nat.lt_or_ge i 78 with h78 | h78
          · rcases Nat.lt_or_ge i 76 with h76 | h76
            · have e : i = 75 := by omega
              rw [e]; exact tail_75
            · rcases Nat.lt_or_ge i 77 with h77 | h77
              · have e : i = 76 := by omega
                rw [e]; exact tail_76
              · have e : i = 77 := by omega
                rw [e]; exact tail_77
          · rcases Nat.lt_or_ge i 80 with h80 | h80
            · rcases Nat.lt_or_ge i 79 with h79 | h79
              · have e : i = 78 := by omega
                rw [e]; exact tail_78
              · have e : i = 79 := by omega
                rw [e]; exact tail_79
            · rcases Nat.lt_or_ge i 81 with h81 | h81
              · have e : i = 80 := by omega
                rw [e]; exact tail_80
              · have e : i = 81 := by omega
                rw [e]; exact tail_81
    · rcases Nat.lt_or_ge i 96 with h96 | h96
      · rcases Nat.lt_or_ge i 89 with h89 | h89
        · rcases Nat.lt_or_ge i 85 with h85 | h85
          · rcases Nat.lt_or_ge i 83 with h83 | h83
            · have e : i = 82 := by omega
              rw [e]; exact tail_82
            · rcases Nat.lt_or_ge i 84 with h84 | h84
              · have e : i = 83 := by omega
                rw [e]; exact tail_83
              · have e : i = 84 := by omega
                rw [e]; exact tail_84
          · rcases Nat.lt_or_ge i 87 with h87 | h87
            · rcases Nat.lt_or_ge i 86 with h86 | h86
              · have e : i = 85 := by omega
                rw [e]; exact tail_85
              · have e : i = 86 := by omega
                rw [e]; exact tail_86
            · rcases Nat.lt_or_ge i 88 with h88 | h88
              · have e : i = 87 := by omega
                rw [e]; exact tail_87
              · have e : i = 88 := by omega
                rw [e]; exact tail_88
        · rcases Nat.lt_or_ge i 92 with h92 | h92
          · rcases Nat.lt_or_ge i 90 with h90 | h90
            · have e : i = 89 := by omega
              rw [e]; exact tail_89
            · rcases Nat.lt_or_ge i 91 with h91 | h91
              · have e : i = 90 := by omega
                rw [e]; exact tail_90
              · have e : i = 91 := by omega
                rw [e]; exact tail_91
          · rcases Nat.lt_or_ge i 94 with h94 | h94
            · rcases Nat.lt_or_ge i 93 with h93 | h93
              · have e : i = 92 := by omega
                rw [e]; exact tail_92
              · have e : i = 93 := by omega
                rw [e]; exact tail_93
            · rcases Nat.lt_or_ge i 95 with h95 | h95
              · have e : i = 94 := by omega
                rw [e]; exact tail_94
              · have e : i = 95 := by omega
                rw [e]; exact tail_95
      · rcases Nat.lt_or_ge i 103 with h103 | h103
        · rcases Nat.lt_or_ge i 99 with h99 | h99
          · rcases Nat.lt_or_ge i 97 with h97 | h97
            · have e : i = 96 := by omega
              rw [e]; exact tail_96
            · rcases Nat.lt_or_ge i 98 with h98 | h98
              · have e : i = 97 := by omega
                rw [e]; exact tail_97
              · have e : i = 98 := by omega
                rw [e]; exact tail_98
          · rcases Nat.lt_or_ge i 101 with h101 | h101
            · rcases Nat.lt_or_ge i 100 with h100 | h100
              · have e : i = 99 := by omega
                rw [e]; exact tail_99
              · have e : i = 100 := by omega
                rw [e]; exact tail_100
            · rcases Nat.lt_or_ge i 102 with h102 | h102
              · have e : i = 101 := by omega
                rw [e]; exact tail_101
              · have e : i = 102 := by omega
                rw [e]; exact tail_102
        · rcases Nat.lt_or_ge i 106 with h106 | h106
          · rcases Nat.lt_or_ge i 104 with h104 | h104
            · have e : i = 103 := by omega
              rw [e]; exact tail_103
            · rcases Nat.lt_or_ge i 105 with h105 | h105
              · have e : i = 104 := by omega
                rw [e]; exact tail_104
              · have e : i = 105 := by omega
                rw [e]; exact tail_105
          · rcases Nat.lt_or_ge i 108 with h108 | h108
            · rcases Nat.lt_or_ge i 107 with h107 | h107
              · have e : i = 106 := by omega
                rw [e]; exact tail_106
              · have e : i = 107 := by omega
                rw [e]; exact tail_107
            · rcases Nat.lt_or_ge i 109 with h109 | h109
              · have e : i = 108 := by omega
                rw [e]; exact tail_108
              · have e : i = 109 := by omega
                rw [e]; exact tail_109

section
variable {fr : Nat → Option Obj} {ρ : Nat → Nat} {os : Os} {out : Array (Nat × ByteArray)} {Q : Post'}
abbrev sy (ρ : Nat → Nat) (os : Os) (out : Array (Nat × ByteArray)) : SymW := ⟨symVal ρ, os, out⟩
abbrev G (fr : Nat → Option Obj) (ρ : Nat → Nat) (os : Os) (out : Array (Nat × ByteArray)) := Good Tryz.prog (cDraw Tryz.prog) fr (sy ρ os out)
abbrev GL (fr : Nat → Option Obj) (ρ : Nat → Nat) (os : Os) (out : Array (Nat × ByteArray)) := GoodL Tryz.prog (cDraw Tryz.prog) fr (sy ρ os out)
theorem at3_eq (c : CC) (t : Tr AV) (aw : AW) : at3 c t aw = xcode cTop 1000 c ⟨t, 127, []⟩ aw := kCode_eq cTop c 1000 t 127 [] aw
theorem dr_ok : DrawOK Tryz.prog cTop (cDraw Tryz.prog) := draw_all _ cTop_ok

/-- the free bytes: the byte, how many, what is called with -/
theorem sym_k {E : Env} {x : Value} {k : Nat} (hE : E.sym = sy ρ os out) (hk : ρ 1 % 256 = k) (h : VRel E (.sym .i64 2) x) : x = .int .i64 (.ofNat k) := by
  cases h with
  | sym _ hs hw =>
    rw [hE] at hs
    have hs : some (Int.ofNat (ρ 1 % 256)) = some _ := hs
    rw [hk] at hs
    injection hs with hs
    rw [← hs]
theorem k_sym {E : Env} {k : Nat} (hE : E.sym = sy ρ os out) (hk : ρ 1 % 256 = k) : VRel E (.sym .i64 2) (.int .i64 (.ofNat k)) := by
  refine .sym _ (by rw [hE]; show symVal ρ 2 = _; rw [← hk]; rfl) ?_
  have : k < 256 := by omega
  have e : (Int.ofNat k : Int) = (k : Int) := rfl
  rw [e]
  simp only [IntKind.wrap, IntKind.bits, IntKind.signed]
  simp
  omega
def loopTm (i k : Nat) : List (Nat × AV) := [(1, s0), (5, vP 0), (7, vI k), (8, vI i)]
/-- the frame with the number known, not known -/
theorem to_known {i k : Nat} (hk : ρ 1 % 256 = k) (E : Env) (ca : Act) (hE : E.sym = sy ρ os out) (hA : ActRel E ⟨tmOf (layTm i) .leaf, 127, []⟩ ca) : ActRel E ⟨tmOf (loopTm i k) .leaf, 127, []⟩ ca := by
  refine retm (fun t v' hm => ?_) hA
  simp only [loopTm, List.mem_cons, Prod.mk.injEq, List.not_mem_nil, or_false] at hm
  rcases hm with ⟨rfl, rfl⟩ | ⟨rfl, rfl⟩ | ⟨rfl, rfl⟩ | ⟨rfl, rfl⟩
  · exact ⟨s0, by kernel_rfl, fun x hx => hx⟩
  · exact ⟨vP 0, by kernel_rfl, fun x hx => hx⟩
  · exact ⟨.sym .i64 2, by kernel_rfl, fun x hx => by rw [sym_k hE hk hx]; exact .int _ _⟩
  · exact ⟨vI i, by kernel_rfl, fun x hx => hx⟩
/-- the frame behind the test -/
noncomputable def testTr (i k : Nat) (q : Bool) : Tr AV := trSet (trSet (trSet (tmOf (loopTm i k) .leaf) (nat_lit 29) (vI i)) (nat_lit 30) (vI k)) (nat_lit 31) (.bool q)
theorem test_run (i k : Nat) (aw : AW) : at3 mostT (tmOf (loopTm i k) .leaf) aw = kNorm (some ⟨.norm, ⟨testTr i k (iltF (.ofNat i) (.ofNat k)), 127, []⟩, aw⟩) (kCode cTop mostTC (nat_lit 999)) := by kernel_rfl
theorem test_true (i k : Nat) (aw : AW) : kNorm (some ⟨.norm, ⟨testTr i k true, 127, []⟩, aw⟩) (kCode cTop mostTC (nat_lit 999)) = some ⟨.norm, ⟨testTr i k true, 127, []⟩, aw⟩ := by kernel_rfl
theorem test_false (i k : Nat) (aw : AW) : kNorm (some ⟨.norm, ⟨testTr i k false, 127, []⟩, aw⟩) (kCode cTop mostTC (nat_lit 999)) = some ⟨.exit 0, ⟨testTr i k false, 127, []⟩, aw⟩ := by kernel_rfl
theorem test_in (i k : Nat) (h : i < k) (aw : AW) : xcode cTop 1000 mostT ⟨tmOf (loopTm i k) .leaf, 127, []⟩ aw = some ⟨.norm, ⟨testTr i k true, 127, []⟩, aw⟩ := by
  rw [← at3_eq, test_run]
  have e : iltF (.ofNat i) (.ofNat k) = true := Nat.ble_eq_true_of_le h
  rw [e]
  exact test_true i k aw
theorem test_out (k : Nat) (aw : AW) : xcode cTop 1000 mostT ⟨tmOf (loopTm k k) .leaf, 127, []⟩ aw = some ⟨.exit 0, ⟨testTr k k false, 127, []⟩, aw⟩ := by
  rw [← at3_eq, test_run]
  have e : iltF (.ofNat k) (.ofNat k) = false := by
    show Nat.ble (k + 1) k = false
    cases hq : Nat.ble (k + 1) k with
    | false => rfl
    | true => have := Nat.le_of_ble_eq_true hq; omega
  rw [e]
  exact test_false k k aw
theorem GoodL.as {P : Program} {dr : Array Oper → Option (List CR × List CR)} {fr : Nat → Option Obj} {sy : SymW} {b : CC} {Q : Post'} {a a' : AAct} {aw : AW} (hw : ∀ E ca, E.sym = sy → ActRel E a ca → ActRel E a' ca) (hg : GoodL P dr fr sy b Q a' aw) : GoodL P dr fr sy b Q a aw := by
  intro c hc E ca w hE hS hA hR
  exact hg c hc E ca w hE hS (hw E ca hS hA) hR
theorem of_test {i k : Nat} {q : Bool} (hk : ρ 1 % 256 = k) (E : Env) (ca : Act) (hE : E.sym = sy ρ os out) (hA : ActRel E ⟨testTr i k q, 127, []⟩ ca) : ActRel E ⟨tmOf (layTm i) .leaf, 127, []⟩ ca := by
  refine ⟨hA.size, fun t v' hv => ?_, hA.defs⟩
  rcases tmOf_get (layTm i) .leaf t v' hv with hm | hm
  · simp only [layTm, List.mem_cons, Prod.mk.injEq, List.not_mem_nil, or_false] at hm
    rcases hm with ⟨rfl, rfl⟩ | ⟨rfl, rfl⟩ | ⟨rfl, rfl⟩ | ⟨rfl, rfl⟩
    · exact hA.tmps 1 s0 (by kernel_rfl)
    · exact hA.tmps 5 (vP 0) (by kernel_rfl)
    · obtain ⟨x, hx, hr⟩ := hA.tmps 7 (vI k) (by kernel_rfl)
      refine ⟨x, hx, ?_⟩
      cases hr
      exact k_sym hE hk
    · exact hA.tmps 8 (vI i) (by kernel_rfl)
  · simp [Tr.get] at hm
theorem to_tail {k : Nat} {q : Bool} (E : Env) (ca : Act) (hE : E.sym = sy ρ os out) (hA : ActRel E ⟨testTr k k q, 127, []⟩ ca) : ActRel E ⟨tmOf (tailTm k) .leaf, 127, []⟩ ca := by
  refine ⟨hA.size, fun t v' hv => ?_, hA.defs⟩
  rcases tmOf_get (tailTm k) .leaf t v' hv with hm | hm
  · simp only [tailTm, List.mem_cons, Prod.mk.injEq, List.not_mem_nil, or_false] at hm
    rcases hm with ⟨rfl, rfl⟩ | ⟨rfl, rfl⟩ | ⟨rfl, rfl⟩ | ⟨rfl, rfl⟩
    · exact hA.tmps 1 s0 (by kernel_rfl)
    · exact hA.tmps 5 (vP 0) (by kernel_rfl)
    · exact hA.tmps 7 (vI k) (by kernel_rfl)
    · exact hA.tmps 8 (vI k) (by kernel_rfl)
  · simp [Tr.get] at hm

/-- it is left with true -/
def TrueQ (fr : Nat → Option Obj) (os : Os) (out : Array (Nat × ByteArray)) : Post' := fun e ca w => e = .ret ∧ ca.defers = [] ∧ ca.tmps[4]? = some (.bool true) ∧ w.os = os ∧ w.output = out ∧ ∀ b o, fr b = some o → w.heap[b]? = some o
theorem tail_good (k : Nat) (h : k < 110) : G fr ρ os out mostTail (TrueQ fr os out) ⟨tmOf (tailTm k) .leaf, 127, []⟩ (ofObjs (lay k) (lenA (lay k))) := by
  have ht := tail_all k h
  unfold tailOK at ht
  rw [at3_eq] at ht
  cases hx : xcode cTop 1000 mostTail ⟨tmOf (tailTm k) .leaf, 127, []⟩ (ofObjs (lay k) (lenA (lay k))) with
  | none => rw [hx] at ht; cases ht
  | some o =>
    rw [hx] at ht
    obtain ⟨x, ⟨t, n, ds⟩, aw⟩ := o
    cases x with
    | norm => cases ht
    | exit _ => cases ht
    | panic _ => cases ht
    | ret =>
      cases ds with
      | cons d l => cases ht
      | nil =>
        have ht : isTrue (trGet t 4) = true := ht
        rw [trGet_eq] at ht
        refine Good.run cTop_ok dr_ok hx fun E e ca w hE hS hR hA hX => ?_
        cases e <;> simp only [XRel] at hX
        refine ⟨rfl, ?_, ?_, ?_, ?_, fun b ob hb => hR.frame b ob (by rw [hE]; exact hb)⟩
        · have := hA.defs
          generalize ca.defers = df at this
          cases this; rfl
        · cases hv : t.get 4 4 with
          | none => rw [hv] at ht; cases ht
          | some v =>
            rw [hv] at ht
            cases v <;> first | cases ht | skip
            obtain ⟨x, hx, hr⟩ := hA.tmps 4 _ hv
            cases hr
            exact hx
        · rw [hR.ns.2.1, hS]
        · rw [hR.ns.2.2, hS]
theorem loop_good (k : Nat) (h : k < 110) (hk : ρ 1 % 256 = k) : ∀ d i, i + d = k → GL fr ρ os out mostBody (Exit.inBlock 0 (thenC Tryz.prog (cDraw Tryz.prog) mostTail (TrueQ fr os out))) ⟨tmOf (layTm i) .leaf, 127, []⟩ (ofObjs (lay i) (lenA (lay i))) := by
  intro d
  induction d with
  | zero =>
    intro i hi
    have : i = k := by omega
    subst this
    refine GoodL.as (to_known hk) ?_
    have hx : xcode cTop 1001 mostBody ⟨tmOf (loopTm i i) .leaf, 127, []⟩ (ofObjs (lay i) (lenA (lay i))) = some ⟨.exit 0, ⟨testTr i i false, 127, []⟩, ofObjs (lay i) (lenA (lay i))⟩ := by
      show (match xcode cTop 1000 mostT ⟨tmOf (loopTm i i) .leaf, 127, []⟩ (ofObjs (lay i) (lenA (lay i))) with
        | some o => (match o.x with
          | .norm => xcode cTop 1000 mostR o.act o.aw
          | _ => some o)
        | none => none) = _
      rw [test_out]
    refine GoodL.leave cTop_ok dr_ok hx (Good.as to_tail (tail_good i h))
  | succ d ih =>
    intro i hi
    have hik : i < k := by omega
    refine GoodL.as (to_known hk) ?_
    refine GoodL.of ?_
    refine Good.seq cTop_ok dr_ok (test_in i k hik _) ?_
    refine Good.as (of_test hk) ?_
    have hr := round_all i (by omega)
    unfold roundOK at hr
    obtain ⟨t, aw, h1, h2⟩ := atNorm_ok hr
    rw [at3_eq] at h1
    exact Good.again (a1 := ⟨t, 127, []⟩) cTop_ok dr_ok h1 h2 rfl (ih (i + 1) (by omega))

noncomputable def p4T (n : Nat) (aw : AW) : Tr AV := Option.rec (motive := fun _ => Tr AV) .leaf (fun o => o.act.tmps) (at3 mostP4 (tmOf [(0, .int .u8 (.ofNat n)), (1, s0), (5, vP 0)] .leaf) aw)
theorem p4_run (n : Nat) (aw : AW) : ∃ t, at3 mostP4 (tmOf [(0, .int .u8 (.ofNat n)), (1, s0), (5, vP 0)] .leaf) aw = some ⟨.norm, ⟨t, 127, []⟩, aw⟩ ∧ t.get 1 1 = some s0 ∧ t.get 5 5 = some (vP 0) ∧ t.get 7 7 = some (.int .i64 (wrapG .i64 (Int.tmod (Int.ofNat n) (Int.ofNat 110)))) :=
  ⟨p4T n aw, by kernel_rfl, by kernel_rfl, by kernel_rfl, by kernel_rfl⟩
theorem i8_run (aw : AW) : at3 mostI8 (tmOf [(1, s0), (5, vP 0), (7, .sym .i64 2)] .leaf) aw = some ⟨.norm, ⟨trSet (tmOf [(1, s0), (5, vP 0), (7, .sym .i64 2)] .leaf) (nat_lit 8) (vI 0), 127, []⟩, aw⟩ := by kernel_rfl
theorem wrap_mod (n : Nat) : wrapG .i64 (Int.tmod (Int.ofNat n) (Int.ofNat 110)) = .ofNat (n % 110) := by
  show bb2 (Nat.ble (n % 110) (topF .i64)) (Int.ofNat (n % 110)) _ = _
  rw [bb2_eq, show Nat.ble (n % 110) (topF .i64) = true from Nat.ble_eq_true_of_le (show n % 110 ≤ 9223372036854775807 by omega)]
  rfl
theorem all_good (n : Nat) (hn : n < 256) (h1 : ρ 1 % 256 = n % 110) (h2 : ρ 2 % 256 = n) : G fr ρ os out mostAll (TrueQ fr os out) ⟨tmOf [(0, .sym .u8 4), (1, s0)] .leaf, 127, []⟩ (ofObjs [] 0) := by
  have hp := pre_ok
  unfold preOK at hp
  obtain ⟨t0, aw0, e0, hp⟩ := atNorm_ok hp
  obtain ⟨t1, aw1, e1, hp⟩ := atNorm_ok hp
  obtain ⟨t2, aw2, e2, hp⟩ := atNorm_ok hp
  obtain ⟨t3, aw3, e3, hp⟩ := atNorm_ok hp
  rw [at3_eq] at e0 e1 e2 e3
  refine Good.seq cTop_ok dr_ok e0 (Good.seq cTop_ok dr_ok e1 (Good.seq cTop_ok dr_ok e2 (Good.seq cTop_ok dr_ok e3 (Good.told (a := ⟨t3, 127, []⟩) hp rfl ?_))))
  refine Good.as (a' := ⟨tmOf [(0, .int .u8 (.ofNat n)), (1, s0), (5, vP 0)] .leaf, 127, []⟩) (fun E ca hE hA => retm (fun t v' hm => ?_) hA) ?_
  · simp only [List.mem_cons, Prod.mk.injEq, List.not_mem_nil, or_false] at hm
    rcases hm with ⟨rfl, rfl⟩ | ⟨rfl, rfl⟩ | ⟨rfl, rfl⟩
    · refine ⟨.sym .u8 4, by kernel_rfl, fun x hx => ?_⟩
      cases hx with
      | sym _ hs hw =>
        rw [hE] at hs
        have hs : some (Int.ofNat (ρ 2 % 256)) = some _ := hs
        rw [h2] at hs
        injection hs with hs
        rw [← hs]; exact .int _ _
    · exact ⟨s0, by kernel_rfl, fun x hx => hx⟩
    · exact ⟨vP 0, by kernel_rfl, fun x hx => hx⟩
  · obtain ⟨t4, e4, q1, q5, q7⟩ := p4_run n (ofObjs lay0 (lenA lay0))
    rw [at3_eq] at e4
    rw [wrap_mod] at q7
    refine Good.seq cTop_ok dr_ok e4 ?_
    refine Good.as (a' := ⟨tmOf [(1, s0), (5, vP 0), (7, .sym .i64 2)] .leaf, 127, []⟩) (fun E ca hE hA => ⟨hA.size, fun t v' hv => ?_, hA.defs⟩) ?_
    · rcases tmOf_get [(1, s0), (5, vP 0), (7, .sym .i64 2)] .leaf t v' hv with hm | hm
      · simp only [List.mem_cons, Prod.mk.injEq, List.not_mem_nil, or_false] at hm
        rcases hm with ⟨rfl, rfl⟩ | ⟨rfl, rfl⟩ | ⟨rfl, rfl⟩
        · exact hA.tmps 1 s0 q1
        · exact hA.tmps 5 (vP 0) q5
        · obtain ⟨x, hx, hr⟩ := hA.tmps 7 _ q7
          refine ⟨x, hx, ?_⟩
          cases hr
          exact k_sym hE h1
      · simp [Tr.get] at hm
    · refine Good.into ?_
      have e8 := i8_run (ofObjs lay0 (lenA lay0))
      rw [at3_eq] at e8
      refine Good.seq cTop_ok dr_ok e8 ?_
      refine Good.as (a' := ⟨tmOf (layTm 0) .leaf, 127, []⟩) (fun E ca hE hA => ⟨hA.size, fun t v' hv => ?_, hA.defs⟩) ?_
      · rcases tmOf_get (layTm 0) .leaf t v' hv with hm | hm
        · simp only [layTm, List.mem_cons, Prod.mk.injEq, List.not_mem_nil, or_false] at hm
          rcases hm with ⟨rfl, rfl⟩ | ⟨rfl, rfl⟩ | ⟨rfl, rfl⟩ | ⟨rfl, rfl⟩
          · exact hA.tmps 1 s0 (by kernel_rfl)
          · exact hA.tmps 5 (vP 0) (by kernel_rfl)
          · exact hA.tmps 7 (.sym .i64 2) (by kernel_rfl)
          · exact hA.tmps 8 (vI 0) (by kernel_rfl)
        · simp [Tr.get] at hm
      · exact Good.block (Good.loop (loop_good (n % 110) (Nat.mod_lt _ (by decide)) h1 (n % 110) 0 (by omega)))
end

theorem most_call (n b : Nat) (hn : n < 256) (hb : b < 256) (w : World) : Calls Tryz.prog 3 #[.int .u8 (.ofNat n), .int .u8 (.ofNat b)] w fun e w' => e = .returned (.bool true) ∧ w'.os = w.os ∧ w'.output = w.output ∧ ∀ i, i < w.heap.size → w'.heap[i]? = w.heap[i]? := by
  obtain ⟨c, hbody, hc⟩ := most_code
  refine calls_of_wp Tryz.func3 hbody ?_
  let ρ : Nat → Nat := fun i => match i with | 0 => b | 1 => n % 110 | 2 => n | _ => 0
  let E : Env := ⟨[], sy ρ w.os w.output, fun i => w.heap[i]?⟩
  have hg := all_good (fr := fun i => w.heap[i]?) (ρ := ρ) (os := w.os) (out := w.output) n hn (by show n % 110 % 256 = n % 110; omega) (by show n % 256 = n; omega)
  have hs : ∀ j m, ρ j % 256 = m → VRel E (.sym .u8 (2 * j)) (.int .u8 (.ofNat m)) := fun j m hm => by
    refine .sym _ ?_ ?_
    · show symVal ρ (2 * j) = _
      unfold symVal
      have h1 : Nat.mod (2 * j) 2 = 0 := by show 2 * j % 2 = 0; omega
      have h2 : Nat.div (2 * j) 2 = j := by show 2 * j / 2 = j; omega
      rw [h1]
      simp only [h2, hm]
    · have : m < 256 := by omega
      have e : (Int.ofNat m : Int) = (m : Int) := rfl
      rw [e]
      simp only [IntKind.wrap, IntKind.bits, IntKind.signed]
      simp
      omega
  have hinit := init_rel (E := E) (args := [.sym .u8 4, s0]) (cargs := [.int .u8 (.ofNat n), .int .u8 (.ofNat b)]) (n := 127) (.cons (hs 2 n (by show n % 256 = n; omega)) (.cons (hs 0 b (by show b % 256 = b; omega)) .nil)) (by decide)
  have hA : ActRel E ⟨tmOf [(0, .sym .u8 4), (1, s0)] .leaf, 127, []⟩ { tmps := #[.int .u8 (.ofNat n), .int .u8 (.ofNat b)] ++ Array.replicate (Tryz.f3.ntmps - (#[.int .u8 (.ofNat n), .int .u8 (.ofNat b)] : Array Value).size) undef, defers := [] } := by
    refine ⟨?_, fun t v hv => ?_, .nil⟩
    · rw [Tryz.ntmps3]; simp
    · have e : tmOf [(0, .sym .u8 4), (1, s0)] .leaf = slots [.sym .u8 4, s0] 0 .leaf := by kernel_rfl
      rw [e] at hv
      rw [Tryz.ntmps3]
      exact hinit.tmps t v hv
  have hR : Rel E (ofObjs [] 0) w := ⟨rfl, ⟨⟨ρ, rfl⟩, rfl, rfl⟩, fun j x hj => by rw [ofObjs_get] at hj; simp at hj, fun i j oi oj Li Lj hi => by rw [ofObjs_get] at hi; simp at hi, fun _ _ h => h, fun i oi Li hi => by rw [ofObjs_get] at hi; simp at hi⟩
  refine wp_mono (hg c hc E _ w rfl rfl hA hR) fun e a w' ⟨h1, h2, h3, h4, h5, h6⟩ => ?_
  subst h1
  refine ⟨h2, .bool true, ?_, rfl, h4, h5, fun i hi => ?_⟩
  · have : a.tmps.getD 4 undef = .bool true := by simp [Array.getD_eq_getD_getElem?, h3]
    rw [← this]
    exact results_tmp (t := 4) rfl _ _ _
  · rw [h6 i w.heap[i] (Array.getElem?_eq_getElem hi), Array.getElem?_eq_getElem hi]
end Go.Proofs.YtbilacojhmohmaaGreat.Ae
namespace Go.Proofs.YtbilacojhmohmaaGreat.topMost
open Go.ChangeShapes Go.WideShapes Go.ChangeAt Go.RowKit
set_option linter.unusedVariables false
theorem own : ownKnob Tryz.prog.godebug = none := by kernel_rfl
theorem byte_of {a : Int} (w : (Lit.int .u8 a).wf = true) : ∃ n : Nat, a = .ofNat n ∧ n < 256 := by
  have h1 : IntKind.min .u8 = 0 := rfl
  have h2 : IntKind.max .u8 = 255 := rfl
  simp only [Lit.wf, h1, h2, Bool.and_eq_true, decide_eq_true_eq] at w
  exact ⟨a.toNat, by show a = ((a.toNat : Nat) : Int); omega, by omega⟩
set_option maxRecDepth 100000 in
theorem lifted (os : Os) (started : os.Started) (H : Type) (enc : TypeId × Value → H) :
    ReturnsInHanded {} Tryz.checked os 3 .any (Rows.topMostSpec.pre6 enc Tryz.prog Tryz.f3 Rows.topMostRow.domain false) (Rows.topMostSpec.post enc Tryz.prog Tryz.f3 false true false false) := by
  refine returnsInHanded_of_change_sized (C := Tryz.checked) own started (by kernel_rfl) Tryz.func3
    (ChangeSpec.witness6 (enc := enc) (C := Tryz.checked) false ⟨#[], #[.int .u8 0, .int .u8 0], []⟩ 8 (by kernel_rfl) (by kernel_rfl) (by kernel_rfl) (by kernel_rfl)) ?_
  intro W base args ds gs before hval0 hW hcnd hsz0 _
  have hval : ∀ (j : Nat) t v, Tryz.f3.params[j]? = some t → args[j]? = some v → Value.okWide Tryz.prog W .any base t v := hval0
  have hW' := hW
  obtain ⟨p, q, hA0, hV, rfl, hfz, hnd⟩ := hW
  have hA : DataW.TrodAll enc Tryz.prog W 0 (fun _ => true) true Tryz.f3.params.toList args.toList ds p := hA0
  rw [Tryz.params3] at hA hval
  obtain ⟨v0, vs0, d0, ds0, p0, q0, hargs, rfl, rfl, h0, r0⟩ := trodAll_cons hA
  obtain ⟨v1, vs1, d1, ds1, p1, q1, rfl, rfl, rfl, h1, r1⟩ := trodAll_cons r0
  obtain ⟨rfl, rfl, rfl⟩ := trodAll_nil r1
  obtain rfl : args = #[v0, v1] := by cases args; simp_all
  obtain ⟨rfl, rfl⟩ := trodVars_none hV
  obtain ⟨a0, rfl, rfl, rfl, w0⟩ := open_int Tryz.underlying5 (hval 0 5 v0 rfl rfl) h0
  obtain ⟨a1, rfl, rfl, rfl, w1⟩ := open_int Tryz.underlying5 (hval 1 5 v1 rfl rfl) h1
  clear hA0 hval0 hsz0
  obtain ⟨n, en, hn⟩ := byte_of w0
  obtain ⟨b, eb, hb⟩ := byte_of w1
  have call := Ae.most_call n b hn hb W
  rw [← en, ← eb] at call
  refine call.mono fun e W' ⟨he, ho, hp, bl⟩ => ?_
  subst he
  exact ⟨_, rfl, _, _, _, [], _, [], hW', trodAll_mk1 (shut_bool Tryz.underlying4 _), (trodAll_cons_mk (shut_int Tryz.underlying5 w0) (trodAll_cons_mk (shut_int Tryz.underlying5 w1) trodAll_mk0)), rfl, ⟨ho, hp, fun i hi => by rw [bl i hi]; split <;> simp_all⟩, fun h => by cases h⟩
theorem over : Rows.topMostRow.holds Tryz.pinned (OpenSpec.ofChange Rows.topMostSpec) :=
  OpenClaim.holds_of_wide 3 Tryz.f3 rfl rfl rfl rfl rfl rfl rfl ⟨rfl, rfl, rfl, rfl, rfl⟩ rfl rfl rfl rfl rfl (by kernel_rfl) Tryz.func3 closed
    (of_decide_eq_true (by kernel_rfl)) (by unfold Func.isWrapper; first | (rw [if_pos (by decide +kernel)]; kernel_rfl) | (rw [if_neg (by decide +kernel)]; exact ⟨rfl, rfl⟩))
    (fun os started H enc _ => lifted os started H enc)
theorem proved : Rows.TopMostSaid := over
#print axioms proved
end Go.Proofs.YtbilacojhmohmaaGreat.topMost
namespace Go.Proofs.YtbilacojhmohmaaGreat
/-- The row, under a short name, for the claim. -/
theorem topMost_holds : Rows.TopMostSaid := topMost.proved
end Go.Proofs.YtbilacojhmohmaaGreat
