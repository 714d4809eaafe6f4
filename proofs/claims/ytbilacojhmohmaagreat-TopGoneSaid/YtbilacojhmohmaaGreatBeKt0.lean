/- The closures are the functions' code, compiled. No condition. -/
import Derived.Test.YtbilacojhmohmaaGreatBeKf1
import Derived.Test.YtbilacojhmohmaaGreatProg
import Derived.KernelRfl
namespace Go.Proofs.YtbilacojhmohmaaGreat.Ae
open Go
set_option linter.unusedVariables false
theorem kt9 : (cFn Tryz.prog (cDraw Tryz.prog) 9).map toK = some kf9 := by kernel_rfl
theorem kt10 : (cFn Tryz.prog (cDraw Tryz.prog) 10).map toK = some kf10 := by kernel_rfl
theorem kt11 : (cFn Tryz.prog (cDraw Tryz.prog) 11).map toK = some kf11 := by kernel_rfl
theorem kt12 : (cFn Tryz.prog (cDraw Tryz.prog) 12).map toK = some kf12 := by kernel_rfl
theorem kt13 : (cFn Tryz.prog (cDraw Tryz.prog) 13).map toK = some kf13 := by kernel_rfl
theorem kt17 : (cFn Tryz.prog (cDraw Tryz.prog) 17).map toK = some kf17 := by kernel_rfl
theorem kt18 : (cFn Tryz.prog (cDraw Tryz.prog) 18).map toK = some kf18 := by kernel_rfl
theorem kt22 : (cFn Tryz.prog (cDraw Tryz.prog) 22).map toK = some kf22 := by kernel_rfl
theorem kt23 : (cFn Tryz.prog (cDraw Tryz.prog) 23).map toK = some kf23 := by kernel_rfl
theorem kt24 : (cFn Tryz.prog (cDraw Tryz.prog) 24).map toK = some kf24 := by kernel_rfl
theorem kt25 : (cFn Tryz.prog (cDraw Tryz.prog) 25).map toK = some kf25 := by kernel_rfl
theorem kt26 : (cFn Tryz.prog (cDraw Tryz.prog) 26).map toK = some kf26 := by kernel_rfl
theorem kt27 : (cFn Tryz.prog (cDraw Tryz.prog) 27).map toK = some kf27 := by kernel_rfl
theorem kt28 : (cFn Tryz.prog (cDraw Tryz.prog) 28).map toK = some kf28 := by kernel_rfl
theorem kt29 : (cFn Tryz.prog (cDraw Tryz.prog) 29).map toK = some kf29 := by kernel_rfl
theorem kt30 : (cFn Tryz.prog (cDraw Tryz.prog) 30).map toK = some kf30 := by kernel_rfl
theorem kt31 : (cFn Tryz.prog (cDraw Tryz.prog) 31).map toK = some kf31 := by kernel_rfl
theorem kt32 : (cFn Tryz.prog (cDraw Tryz.prog) 32).map toK = some kf32 := by kernel_rfl
theorem kt33 : (cFn Tryz.prog (cDraw Tryz.prog) 33).map toK = some kf33 := by kernel_rfl
theorem kt34 : (cFn Tryz.prog (cDraw Tryz.prog) 34).map toK = some kf34 := by kernel_rfl
theorem kt35 : (cFn Tryz.prog (cDraw Tryz.prog) 35).map toK = some kf35 := by kernel_rfl
theorem kt37 : (cFn Tryz.prog (cDraw Tryz.prog) 37).map toK = some kf37 := by kernel_rfl
theorem kt38 : (cFn Tryz.prog (cDraw Tryz.prog) 38).map toK = some kf38 := by kernel_rfl
theorem kt39 : (cFn Tryz.prog (cDraw Tryz.prog) 39).map toK = some kf39 := by kernel_rfl
theorem kt41 : (cFn Tryz.prog (cDraw Tryz.prog) 41).map toK = some kf41 := by kernel_rfl
theorem kt42 : (cFn Tryz.prog (cDraw Tryz.prog) 42).map toK = some kf42 := by kernel_rfl
theorem kt43 : (cFn Tryz.prog (cDraw Tryz.prog) 43).map toK = some kf43 := by kernel_rfl
theorem kt44 : (cFn Tryz.prog (cDraw Tryz.prog) 44).map toK = some kf44 := by kernel_rfl
theorem kt48 : (cFn Tryz.prog (cDraw Tryz.prog) 48).map toK = some kf48 := by kernel_rfl
theorem kt49 : (cFn Tryz.prog (cDraw Tryz.prog) 49).map toK = some kf49 := by kernel_rfl
theorem kt50 : (cFn Tryz.prog (cDraw Tryz.prog) 50).map toK = some kf50 := by kernel_rfl
theorem kt51 : (cFn Tryz.prog (cDraw Tryz.prog) 51).map toK = some kf51 := by kernel_rfl
theorem kt52 : (cFn Tryz.prog (cDraw Tryz.prog) 52).map toK = some kf52 := by kernel_rfl
theorem kt53 : (cFn Tryz.prog (cDraw Tryz.prog) 53).map toK = some kf53 := by kernel_rfl
theorem kt54 : (cFn Tryz.prog (cDraw Tryz.prog) 54).map toK = some kf54 := by kernel_rfl
theorem kt55 : (cFn Tryz.prog (cDraw Tryz.prog) 55).map toK = some kf55 := by kernel_rfl
theorem kt56 : (cFn Tryz.prog (cDraw Tryz.prog) 56).map toK = some kf56 := by kernel_rfl
theorem kt57 : (cFn Tryz.prog (cDraw Tryz.prog) 57).map toK = some kf57 := by kernel_rfl
theorem kt58 : (cFn Tryz.prog (cDraw Tryz.prog) 58).map toK = some kf58 := by kernel_rfl
theorem kt59 : (cFn Tryz.prog (cDraw Tryz.prog) 59).map toK = some kf59 := by kernel_rfl
theorem kt60 : (cFn Tryz.prog (cDraw Tryz.prog) 60).map toK = some kf60 := by kernel_rfl
theorem kt61 : (cFn Tryz.prog (cDraw Tryz.prog) 61).map toK = some kf61 := by kernel_rfl
theorem kt62 : (cFn Tryz.prog (cDraw Tryz.prog) 62).map toK = some kf62 := by kernel_rfl
theorem kt63 : (cFn Tryz.prog (cDraw Tryz.prog) 63).map toK = some kf63 := by kernel_rfl
theorem kt64 : (cFn Tryz.prog (cDraw Tryz.prog) 64).map toK = some kf64 := by kernel_rfl
theorem kt65 : (cFn Tryz.prog (cDraw Tryz.prog) 65).map toK = some kf65 := by kernel_rfl
theorem kt67 : (cFn Tryz.prog (cDraw Tryz.prog) 67).map toK = some kf67 := by kernel_rfl
theorem kt71 : (cFn Tryz.prog (cDraw Tryz.prog) 71).map toK = some kf71 := by kernel_rfl
theorem kt75 : (cFn Tryz.prog (cDraw Tryz.prog) 75).map toK = some kf75 := by kernel_rfl
theorem kt76 : (cFn Tryz.prog (cDraw Tryz.prog) 76).map toK = some kf76 := by kernel_rfl
theorem kt77 : (cFn Tryz.prog (cDraw Tryz.prog) 77).map toK = some kf77 := by kernel_rfl
theorem kt83 : (cFn Tryz.prog (cDraw Tryz.prog) 83).map toK = some kf83 := by kernel_rfl
theorem kt84 : (cFn Tryz.prog (cDraw Tryz.prog) 84).map toK = some kf84 := by kernel_rfl
theorem kt85 : (cFn Tryz.prog (cDraw Tryz.prog) 85).map toK = some kf85 := by kernel_rfl
theorem kt86 : (cFn Tryz.prog (cDraw Tryz.prog) 86).map toK = some kf86 := by kernel_rfl
theorem kt87 : (cFn Tryz.prog (cDraw Tryz.prog) 87).map toK = some kf87 := by kernel_rfl
theorem kt88 : (cFn Tryz.prog (cDraw Tryz.prog) 88).map toK = some kf88 := by kernel_rfl
theorem kt89 : (cFn Tryz.prog (cDraw Tryz.prog) 89).map toK = some kf89 := by kernel_rfl
theorem kt90 : (cFn Tryz.prog (cDraw Tryz.prog) 90).map toK = some kf90 := by kernel_rfl
theorem kt91 : (cFn Tryz.prog (cDraw Tryz.prog) 91).map toK = some kf91 := by kernel_rfl
theorem kt92 : (cFn Tryz.prog (cDraw Tryz.prog) 92).map toK = some kf92 := by kernel_rfl
theorem kt93 : (cFn Tryz.prog (cDraw Tryz.prog) 93).map toK = some kf93 := by kernel_rfl
theorem kt94 : (cFn Tryz.prog (cDraw Tryz.prog) 94).map toK = some kf94 := by kernel_rfl
theorem kt95 : (cFn Tryz.prog (cDraw Tryz.prog) 95).map toK = some kf95 := by kernel_rfl
theorem kt96 : (cFn Tryz.prog (cDraw Tryz.prog) 96).map toK = some kf96 := by kernel_rfl
theorem kt97 : (cFn Tryz.prog (cDraw Tryz.prog) 97).map toK = some kf97 := by kernel_rfl
theorem kt98 : (cFn Tryz.prog (cDraw Tryz.prog) 98).map toK = some kf98 := by kernel_rfl
theorem kt99 : (cFn Tryz.prog (cDraw Tryz.prog) 99).map toK = some kf99 := by kernel_rfl
theorem kt100 : (cFn Tryz.prog (cDraw Tryz.prog) 100).map toK = some kf100 := by kernel_rfl
theorem kt101 : (cFn Tryz.prog (cDraw Tryz.prog) 101).map toK = some kf101 := by kernel_rfl
theorem kt102 : (cFn Tryz.prog (cDraw Tryz.prog) 102).map toK = some kf102 := by kernel_rfl
theorem kt103 : (cFn Tryz.prog (cDraw Tryz.prog) 103).map toK = some kf103 := by kernel_rfl
theorem kt104 : (cFn Tryz.prog (cDraw Tryz.prog) 104).map toK = some kf104 := by kernel_rfl
theorem kt105 : (cFn Tryz.prog (cDraw Tryz.prog) 105).map toK = some kf105 := by kernel_rfl
theorem kt106 : (cFn Tryz.prog (cDraw Tryz.prog) 106).map toK = some kf106 := by kernel_rfl
theorem kt107 : (cFn Tryz.prog (cDraw Tryz.prog) 107).map toK = some kf107 := by kernel_rfl
theorem kt108 : (cFn Tryz.prog (cDraw Tryz.prog) 108).map toK = some kf108 := by kernel_rfl
theorem kt109 : (cFn Tryz.prog (cDraw Tryz.prog) 109).map toK = some kf109 := by kernel_rfl
theorem kt110 : (cFn Tryz.prog (cDraw Tryz.prog) 110).map toK = some kf110 := by kernel_rfl
theorem kt111 : (cFn Tryz.prog (cDraw Tryz.prog) 111).map toK = some kf111 := by kernel_rfl
theorem kt112 : (cFn Tryz.prog (cDraw Tryz.prog) 112).map toK = some kf112 := by kernel_rfl
theorem kt114 : (cFn Tryz.prog (cDraw Tryz.prog) 114).map toK = some kf114 := by kernel_rfl
theorem kt115 : (cFn Tryz.prog (cDraw Tryz.prog) 115).map toK = some kf115 := by kernel_rfl
theorem kt116 : (cFn Tryz.prog (cDraw Tryz.prog) 116).map toK = some kf116 := by kernel_rfl
theorem kt117 : (cFn Tryz.prog (cDraw Tryz.prog) 117).map toK = some kf117 := by kernel_rfl
theorem kt118 : (cFn Tryz.prog (cDraw Tryz.prog) 118).map toK = some kf118 := by kernel_rfl
theorem kt119 : (cFn Tryz.prog (cDraw Tryz.prog) 119).map toK = some kf119 := by kernel_rfl
theorem kt120 : (cFn Tryz.prog (cDraw Tryz.prog) 120).map toK = some kf120 := by kernel_rfl
theorem kt122 : (cFn Tryz.prog (cDraw Tryz.prog) 122).map toK = some kf122 := by kernel_rfl
theorem kt140 : (cFn Tryz.prog (cDraw Tryz.prog) 140).map toK = some kf140 := by kernel_rfl
theorem kt141 : (cFn Tryz.prog (cDraw Tryz.prog) 141).map toK = some kf141 := by kernel_rfl
theorem kt142 : (cFn Tryz.prog (cDraw Tryz.prog) 142).map toK = some kf142 := by kernel_rfl
theorem kt143 : (cFn Tryz.prog (cDraw Tryz.prog) 143).map toK = some kf143 := by kernel_rfl
theorem kt145 : (cFn Tryz.prog (cDraw Tryz.prog) 145).map toK = some kf145 := by kernel_rfl
theorem kt146 : (cFn Tryz.prog (cDraw Tryz.prog) 146).map toK = some kf146 := by kernel_rfl
theorem kt147 : (cFn Tryz.prog (cDraw Tryz.prog) 147).map toK = some kf147 := by kernel_rfl
theorem kt148 : (cFn Tryz.prog (cDraw Tryz.prog) 148).map toK = some kf148 := by kernel_rfl
theorem kt149 : (cFn Tryz.prog (cDraw Tryz.prog) 149).map toK = some kf149 := by kernel_rfl
theorem kt150 : (cFn Tryz.prog (cDraw Tryz.prog) 150).map toK = some kf150 := by kernel_rfl
theorem kt151 : (cFn Tryz.prog (cDraw Tryz.prog) 151).map toK = some kf151 := by kernel_rfl
theorem kt152 : (cFn Tryz.prog (cDraw Tryz.prog) 152).map toK = some kf152 := by kernel_rfl
theorem kt153 : (cFn Tryz.prog (cDraw Tryz.prog) 153).map toK = some kf153 := by kernel_rfl
theorem kt154 : (cFn Tryz.prog (cDraw Tryz.prog) 154).map toK = some kf154 := by kernel_rfl
theorem kt155 : (cFn Tryz.prog (cDraw Tryz.prog) 155).map toK = some kf155 := by kernel_rfl
theorem kt156 : (cFn Tryz.prog (cDraw Tryz.prog) 156).map toK = some kf156 := by kernel_rfl
theorem kt157 : (cFn Tryz.prog (cDraw Tryz.prog) 157).map toK = some kf157 := by kernel_rfl
theorem kt158 : (cFn Tryz.prog (cDraw Tryz.prog) 158).map toK = some kf158 := by kernel_rfl
theorem kt159 : (cFn Tryz.prog (cDraw Tryz.prog) 159).map toK = some kf159 := by kernel_rfl
theorem kt160 : (cFn Tryz.prog (cDraw Tryz.prog) 160).map toK = some kf160 := by kernel_rfl
theorem kt161 : (cFn Tryz.prog (cDraw Tryz.prog) 161).map toK = some kf161 := by kernel_rfl
theorem kt162 : (cFn Tryz.prog (cDraw Tryz.prog) 162).map toK = some kf162 := by kernel_rfl
theorem kt163 : (cFn Tryz.prog (cDraw Tryz.prog) 163).map toK = some kf163 := by kernel_rfl
theorem kt164 : (cFn Tryz.prog (cDraw Tryz.prog) 164).map toK = some kf164 := by kernel_rfl
theorem kt165 : (cFn Tryz.prog (cDraw Tryz.prog) 165).map toK = some kf165 := by kernel_rfl
theorem kt166 : (cFn Tryz.prog (cDraw Tryz.prog) 166).map toK = some kf166 := by kernel_rfl
theorem kt167 : (cFn Tryz.prog (cDraw Tryz.prog) 167).map toK = some kf167 := by kernel_rfl
theorem kt168 : (cFn Tryz.prog (cDraw Tryz.prog) 168).map toK = some kf168 := by kernel_rfl
theorem kt169 : (cFn Tryz.prog (cDraw Tryz.prog) 169).map toK = some kf169 := by kernel_rfl
theorem kt170 : (cFn Tryz.prog (cDraw Tryz.prog) 170).map toK = some kf170 := by kernel_rfl
theorem kt171 : (cFn Tryz.prog (cDraw Tryz.prog) 171).map toK = some kf171 := by kernel_rfl
theorem kt172 : (cFn Tryz.prog (cDraw Tryz.prog) 172).map toK = some kf172 := by kernel_rfl
theorem kt173 : (cFn Tryz.prog (cDraw Tryz.prog) 173).map toK = some kf173 := by kernel_rfl
theorem kt174 : (cFn Tryz.prog (cDraw Tryz.prog) 174).map toK = some kf174 := by kernel_rfl
theorem kt175 : (cFn Tryz.prog (cDraw Tryz.prog) 175).map toK = some kf175 := by kernel_rfl
theorem kt176 : (cFn Tryz.prog (cDraw Tryz.prog) 176).map toK = some kf176 := by kernel_rfl
theorem kt178 : (cFn Tryz.prog (cDraw Tryz.prog) 178).map toK = some kf178 := by kernel_rfl
theorem kt180 : (cFn Tryz.prog (cDraw Tryz.prog) 180).map toK = some kf180 := by kernel_rfl
theorem kt181 : (cFn Tryz.prog (cDraw Tryz.prog) 181).map toK = some kf181 := by kernel_rfl
theorem kt182 : (cFn Tryz.prog (cDraw Tryz.prog) 182).map toK = some kf182 := by kernel_rfl
theorem kt183 : (cFn Tryz.prog (cDraw Tryz.prog) 183).map toK = some kf183 := by kernel_rfl
theorem kt184 : (cFn Tryz.prog (cDraw Tryz.prog) 184).map toK = some kf184 := by kernel_rfl
theorem kt185 : (cFn Tryz.prog (cDraw Tryz.prog) 185).map toK = some kf185 := by kernel_rfl
theorem kt186 : (cFn Tryz.prog (cDraw Tryz.prog) 186).map toK = some kf186 := by kernel_rfl
theorem kt187 : (cFn Tryz.prog (cDraw Tryz.prog) 187).map toK = some kf187 := by kernel_rfl
theorem kt189 : (cFn Tryz.prog (cDraw Tryz.prog) 189).map toK = some kf189 := by kernel_rfl
theorem kt191 : (cFn Tryz.prog (cDraw Tryz.prog) 191).map toK = some kf191 := by kernel_rfl
theorem kt192 : (cFn Tryz.prog (cDraw Tryz.prog) 192).map toK = some kf192 := by kernel_rfl
theorem kt194 : (cFn Tryz.prog (cDraw Tryz.prog) 194).map toK = some kf194 := by kernel_rfl
theorem kt223 : (cFn Tryz.prog (cDraw Tryz.prog) 223).map toK = some kf223 := by kernel_rfl
theorem kt224 : (cFn Tryz.prog (cDraw Tryz.prog) 224).map toK = some kf224 := by kernel_rfl
theorem kt225 : (cFn Tryz.prog (cDraw Tryz.prog) 225).map toK = some kf225 := by kernel_rfl
theorem kt226 : (cFn Tryz.prog (cDraw Tryz.prog) 226).map toK = some kf226 := by kernel_rfl
theorem kt227 : (cFn Tryz.prog (cDraw Tryz.prog) 227).map toK = some kf227 := by kernel_rfl
theorem kt228 : (cFn Tryz.prog (cDraw Tryz.prog) 228).map toK = some kf228 := by kernel_rfl
theorem kt229 : (cFn Tryz.prog (cDraw Tryz.prog) 229).map toK = some kf229 := by kernel_rfl
theorem kt230 : (cFn Tryz.prog (cDraw Tryz.prog) 230).map toK = some kf230 := by kernel_rfl
theorem kt231 : (cFn Tryz.prog (cDraw Tryz.prog) 231).map toK = some kf231 := by kernel_rfl
theorem kt232 : (cFn Tryz.prog (cDraw Tryz.prog) 232).map toK = some kf232 := by kernel_rfl
theorem kt233 : (cFn Tryz.prog (cDraw Tryz.prog) 233).map toK = some kf233 := by kernel_rfl
theorem kt234 : (cFn Tryz.prog (cDraw Tryz.prog) 234).map toK = some kf234 := by kernel_rfl
theorem kt235 : (cFn Tryz.prog (cDraw Tryz.prog) 235).map toK = some kf235 := by kernel_rfl
theorem kt236 : (cFn Tryz.prog (cDraw Tryz.prog) 236).map toK = some kf236 := by kernel_rfl
theorem kt237 : (cFn Tryz.prog (cDraw Tryz.prog) 237).map toK = some kf237 := by kernel_rfl
theorem kt238 : (cFn Tryz.prog (cDraw Tryz.prog) 238).map toK = some kf238 := by kernel_rfl
theorem kt239 : (cFn Tryz.prog (cDraw Tryz.prog) 239).map toK = some kf239 := by kernel_rfl
theorem kt240 : (cFn Tryz.prog (cDraw Tryz.prog) 240).map toK = some kf240 := by kernel_rfl
theorem kt241 : (cFn Tryz.prog (cDraw Tryz.prog) 241).map toK = some kf241 := by kernel_rfl
theorem kt242 : (cFn Tryz.prog (cDraw Tryz.prog) 242).map toK = some kf242 := by kernel_rfl
theorem kt243 : (cFn Tryz.prog (cDraw Tryz.prog) 243).map toK = some kf243 := by kernel_rfl
theorem kt244 : (cFn Tryz.prog (cDraw Tryz.prog) 244).map toK = some kf244 := by kernel_rfl
theorem kt245 : (cFn Tryz.prog (cDraw Tryz.prog) 245).map toK = some kf245 := by kernel_rfl
theorem kt246 : (cFn Tryz.prog (cDraw Tryz.prog) 246).map toK = some kf246 := by kernel_rfl
theorem kt247 : (cFn Tryz.prog (cDraw Tryz.prog) 247).map toK = some kf247 := by kernel_rfl
theorem kt248 : (cFn Tryz.prog (cDraw Tryz.prog) 248).map toK = some kf248 := by kernel_rfl
theorem kt249 : (cFn Tryz.prog (cDraw Tryz.prog) 249).map toK = some kf249 := by kernel_rfl
theorem kt250 : (cFn Tryz.prog (cDraw Tryz.prog) 250).map toK = some kf250 := by kernel_rfl
theorem kt251 : (cFn Tryz.prog (cDraw Tryz.prog) 251).map toK = some kf251 := by kernel_rfl
theorem kt252 : (cFn Tryz.prog (cDraw Tryz.prog) 252).map toK = some kf252 := by kernel_rfl
theorem kt253 : (cFn Tryz.prog (cDraw Tryz.prog) 253).map toK = some kf253 := by kernel_rfl
theorem kt254 : (cFn Tryz.prog (cDraw Tryz.prog) 254).map toK = some kf254 := by kernel_rfl
theorem kt255 : (cFn Tryz.prog (cDraw Tryz.prog) 255).map toK = some kf255 := by kernel_rfl
theorem kt256 : (cFn Tryz.prog (cDraw Tryz.prog) 256).map toK = some kf256 := by kernel_rfl
theorem kt257 : (cFn Tryz.prog (cDraw Tryz.prog) 257).map toK = some kf257 := by kernel_rfl
theorem kt258 : (cFn Tryz.prog (cDraw Tryz.prog) 258).map toK = some kf258 := by kernel_rfl
theorem kt259 : (cFn Tryz.prog (cDraw Tryz.prog) 259).map toK = some kf259 := by kernel_rfl
theorem kt260 : (cFn Tryz.prog (cDraw Tryz.prog) 260).map toK = some kf260 := by kernel_rfl
theorem kt262 : (cFn Tryz.prog (cDraw Tryz.prog) 262).map toK = some kf262 := by kernel_rfl
theorem kt263 : (cFn Tryz.prog (cDraw Tryz.prog) 263).map toK = some kf263 := by kernel_rfl
theorem kt264 : (cFn Tryz.prog (cDraw Tryz.prog) 264).map toK = some kf264 := by kernel_rfl
theorem kt265 : (cFn Tryz.prog (cDraw Tryz.prog) 265).map toK = some kf265 := by kernel_rfl
theorem kt266 : (cFn Tryz.prog (cDraw Tryz.prog) 266).map toK = some kf266 := by kernel_rfl
theorem kt267 : (cFn Tryz.prog (cDraw Tryz.prog) 267).map toK = some kf267 := by kernel_rfl
theorem kt268 : (cFn Tryz.prog (cDraw Tryz.prog) 268).map toK = some kf268 := by kernel_rfl
theorem kt294 : (cFn Tryz.prog (cDraw Tryz.prog) 294).map toK = some kf294 := by kernel_rfl
theorem kt298 : (cFn Tryz.prog (cDraw Tryz.prog) 298).map toK = some kf298 := by kernel_rfl
theorem kt303 : (cFn Tryz.prog (cDraw Tryz.prog) 303).map toK = some kf303 := by kernel_rfl
theorem kt304 : (cFn Tryz.prog (cDraw Tryz.prog) 304).map toK = some kf304 := by kernel_rfl
theorem kt305 : (cFn Tryz.prog (cDraw Tryz.prog) 305).map toK = some kf305 := by kernel_rfl
theorem kt306 : (cFn Tryz.prog (cDraw Tryz.prog) 306).map toK = some kf306 := by kernel_rfl
theorem kt307 : (cFn Tryz.prog (cDraw Tryz.prog) 307).map toK = some kf307 := by kernel_rfl
theorem kt308 : (cFn Tryz.prog (cDraw Tryz.prog) 308).map toK = some kf308 := by kernel_rfl
theorem kt310 : (cFn Tryz.prog (cDraw Tryz.prog) 310).map toK = some kf310 := by kernel_rfl
theorem kt311 : (cFn Tryz.prog (cDraw Tryz.prog) 311).map toK = some kf311 := by kernel_rfl
theorem kt312 : (cFn Tryz.prog (cDraw Tryz.prog) 312).map toK = some kf312 := by kernel_rfl
theorem kt316 : (cFn Tryz.prog (cDraw Tryz.prog) 316).map toK = some kf316 := by kernel_rfl
theorem kt317 : (cFn Tryz.prog (cDraw Tryz.prog) 317).map toK = some kf317 := by kernel_rfl
theorem kt318 : (cFn Tryz.prog (cDraw Tryz.prog) 318).map toK = some kf318 := by kernel_rfl
theorem kt319 : (cFn Tryz.prog (cDraw Tryz.prog) 319).map toK = some kf319 := by kernel_rfl
theorem kt320 : (cFn Tryz.prog (cDraw Tryz.prog) 320).map toK = some kf320 := by kernel_rfl
theorem kt321 : (cFn Tryz.prog (cDraw Tryz.prog) 321).map toK = some kf321 := by kernel_rfl
theorem kt322 : (cFn Tryz.prog (cDraw Tryz.prog) 322).map toK = some kf322 := by kernel_rfl
theorem kt324 : (cFn Tryz.prog (cDraw Tryz.prog) 324).map toK = some kf324 := by kernel_rfl
theorem kt325 : (cFn Tryz.prog (cDraw Tryz.prog) 325).map toK = some kf325 := by kernel_rfl
theorem kt326 : (cFn Tryz.prog (cDraw Tryz.prog) 326).map toK = some kf326 := by kernel_rfl
theorem kt327 : (cFn Tryz.prog (cDraw Tryz.prog) 327).map toK = some kf327 := by kernel_rfl
theorem kt328 : (cFn Tryz.prog (cDraw Tryz.prog) 328).map toK = some kf328 := by kernel_rfl
theorem kt329 : (cFn Tryz.prog (cDraw Tryz.prog) 329).map toK = some kf329 := by kernel_rfl
theorem kt330 : (cFn Tryz.prog (cDraw Tryz.prog) 330).map toK = some kf330 := by kernel_rfl
theorem kt331 : (cFn Tryz.prog (cDraw Tryz.prog) 331).map toK = some kf331 := by kernel_rfl
theorem kt346 : (cFn Tryz.prog (cDraw Tryz.prog) 346).map toK = some kf346 := by kernel_rfl
theorem kt347 : (cFn Tryz.prog (cDraw Tryz.prog) 347).map toK = some kf347 := by kernel_rfl
theorem kt348 : (cFn Tryz.prog (cDraw Tryz.prog) 348).map toK = some kf348 := by kernel_rfl
theorem kt349 : (cFn Tryz.prog (cDraw Tryz.prog) 349).map toK = some kf349 := by kernel_rfl
theorem kt350 : (cFn Tryz.prog (cDraw Tryz.prog) 350).map toK = some kf350 := by kernel_rfl
theorem kt351 : (cFn Tryz.prog (cDraw Tryz.prog) 351).map toK = some kf351 := by kernel_rfl
theorem kt352 : (cFn Tryz.prog (cDraw Tryz.prog) 352).map toK = some kf352 := by kernel_rfl
theorem kt354 : (cFn Tryz.prog (cDraw Tryz.prog) 354).map toK = some kf354 := by kernel_rfl
theorem kt356 : (cFn Tryz.prog (cDraw Tryz.prog) 356).map toK = some kf356 := by kernel_rfl
theorem kt357 : (cFn Tryz.prog (cDraw Tryz.prog) 357).map toK = some kf357 := by kernel_rfl
theorem kt359 : (cFn Tryz.prog (cDraw Tryz.prog) 359).map toK = some kf359 := by kernel_rfl
theorem kt362 : (cFn Tryz.prog (cDraw Tryz.prog) 362).map toK = some kf362 := by kernel_rfl
theorem kt366 : (cFn Tryz.prog (cDraw Tryz.prog) 366).map toK = some kf366 := by kernel_rfl
theorem kt367 : (cFn Tryz.prog (cDraw Tryz.prog) 367).map toK = some kf367 := by kernel_rfl
theorem kt368 : (cFn Tryz.prog (cDraw Tryz.prog) 368).map toK = some kf368 := by kernel_rfl
theorem kt372 : (cFn Tryz.prog (cDraw Tryz.prog) 372).map toK = some kf372 := by kernel_rfl
theorem kt374 : (cFn Tryz.prog (cDraw Tryz.prog) 374).map toK = some kf374 := by kernel_rfl
theorem kt381 : (cFn Tryz.prog (cDraw Tryz.prog) 381).map toK = some kf381 := by kernel_rfl
theorem kt383 : (cFn Tryz.prog (cDraw Tryz.prog) 383).map toK = some kf383 := by kernel_rfl
theorem kt387 : (cFn Tryz.prog (cDraw Tryz.prog) 387).map toK = some kf387 := by kernel_rfl
theorem kt388 : (cFn Tryz.prog (cDraw Tryz.prog) 388).map toK = some kf388 := by kernel_rfl
theorem kt390 : (cFn Tryz.prog (cDraw Tryz.prog) 390).map toK = some kf390 := by kernel_rfl
theorem kt391 : (cFn Tryz.prog (cDraw Tryz.prog) 391).map toK = some kf391 := by kernel_rfl
theorem kt392 : (cFn Tryz.prog (cDraw Tryz.prog) 392).map toK = some kf392 := by kernel_rfl
theorem kt393 : (cFn Tryz.prog (cDraw Tryz.prog) 393).map toK = some kf393 := by kernel_rfl
theorem kt394 : (cFn Tryz.prog (cDraw Tryz.prog) 394).map toK = some kf394 := by kernel_rfl
/-- of all that lies in a tree -/
def Tr.all {α : Type} (p : Nat → α → Prop) : Tr α → Prop
  | .leaf => True
  | .node k v a b c d => p k v ∧ a.all p ∧ b.all p ∧ c.all p ∧ d.all p
theorem Tr.all_get {α : Type} {p : Nat → α → Prop} : ∀ {t : Tr α} {n m : Nat} {v : α}, t.all p → t.get n m = some v → p n v
  | .leaf, n, m, v, _, h => by cases h
  | .node k x a b c d, n, m, v, ⟨h0, h1, h2, h3, h4⟩, h => by
    simp only [Tr.get] at h
    cases hk : Nat.beq n k with
    | true =>
      simp only [hk, cond_true, Option.some.injEq] at h
      subst h; rw [Nat.eq_of_beq_eq_true hk]; exact h0
    | false =>
      simp only [hk, cond_false] at h
      exact sel4_ind (Nat.mod m 4) (p := fun o => o = some v → p n v) (fun _ h => Tr.all_get h1 h) (fun _ h => Tr.all_get h2 h) (fun _ h => Tr.all_get h3 h) (fun _ _ _ h => Tr.all_get h4 h) h
theorem kfTree_all : kfTree.all fun f k => (cFn Tryz.prog (cDraw Tryz.prog) f).map toK = some k := ⟨kt9, ⟨kt12, ⟨kt32, ⟨kt64, ⟨kt256, trivial, trivial, trivial, trivial⟩, ⟨kt320, trivial, trivial, trivial, trivial⟩, trivial, ⟨kt192, trivial, trivial, trivial, trivial⟩⟩, trivial, ⟨kt96, trivial, ⟨kt352, trivial, trivial, trivial, trivial⟩, ⟨kt160, trivial, trivial, trivial, trivial⟩, ⟨kt224, trivial, trivial, trivial, trivial⟩⟩, ⟨kt48, ⟨kt304, trivial, trivial, trivial, trivial⟩, ⟨kt112, trivial, ⟨kt368, trivial, trivial, trivial, trivial⟩, trivial, trivial⟩, ⟨kt176, trivial, trivial, trivial, trivial⟩, ⟨kt240, trivial, trivial, trivial, trivial⟩⟩⟩, ⟨kt52, ⟨kt260, trivial, ⟨kt324, trivial, trivial, trivial, trivial⟩, ⟨kt388, trivial, trivial, trivial, trivial⟩, trivial⟩, ⟨kt84, trivial, trivial, ⟨kt148, trivial, trivial, trivial, trivial⟩, trivial⟩, ⟨kt100, trivial, ⟨kt356, trivial, trivial, trivial, trivial⟩, ⟨kt164, trivial, trivial, trivial, trivial⟩, ⟨kt228, trivial, trivial, trivial, trivial⟩⟩, ⟨kt116, ⟨kt308, trivial, trivial, trivial, trivial⟩, ⟨kt372, trivial, trivial, trivial, trivial⟩, ⟨kt180, trivial, trivial, trivial, trivial⟩, ⟨kt244, trivial, trivial, trivial, trivial⟩⟩⟩, ⟨kt24, ⟨kt264, trivial, ⟨kt328, trivial, trivial, trivial, trivial⟩, ⟨kt392, trivial, trivial, trivial, trivial⟩, trivial⟩, ⟨kt88, trivial, trivial, ⟨kt152, trivial, trivial, trivial, trivial⟩, trivial⟩, ⟨kt104, trivial, trivial, ⟨kt168, trivial, trivial, trivial, trivial⟩, ⟨kt232, trivial, trivial, trivial, trivial⟩⟩, ⟨kt56, ⟨kt312, trivial, trivial, trivial, trivial⟩, ⟨kt120, trivial, trivial, trivial, trivial⟩, ⟨kt184, trivial, trivial, trivial, trivial⟩, ⟨kt248, trivial, trivial, trivial, trivial⟩⟩⟩, ⟨kt28, ⟨kt76, ⟨kt268, trivial, trivial, trivial, trivial⟩, trivial, ⟨kt140, trivial, trivial, trivial, trivial⟩, trivial⟩, ⟨kt92, trivial, ⟨kt348, trivial, trivial, trivial, trivial⟩, ⟨kt156, trivial, trivial, trivial, trivial⟩, trivial⟩, ⟨kt44, trivial, ⟨kt108, trivial, trivial, trivial, trivial⟩, ⟨kt172, trivial, trivial, trivial, trivial⟩, ⟨kt236, trivial, trivial, trivial, trivial⟩⟩, ⟨kt60, ⟨kt316, trivial, trivial, trivial, trivial⟩, trivial, trivial, ⟨kt252, trivial, trivial, trivial, trivial⟩⟩⟩⟩, ⟨kt13, ⟨kt17, ⟨kt65, ⟨kt257, trivial, trivial, trivial, trivial⟩, ⟨kt321, trivial, trivial, trivial, trivial⟩, trivial, trivial⟩, ⟨kt145, trivial, trivial, trivial, trivial⟩, ⟨kt33, trivial, ⟨kt97, trivial, trivial, trivial, trivial⟩, ⟨kt161, trivial, trivial, trivial, trivial⟩, ⟨kt225, trivial, trivial, trivial, trivial⟩⟩, ⟨kt49, ⟨kt305, trivial, trivial, trivial, trivial⟩, trivial, trivial, ⟨kt241, trivial, trivial, trivial, trivial⟩⟩⟩, ⟨kt37, ⟨kt325, trivial, trivial, trivial, trivial⟩, ⟨kt85, trivial, trivial, ⟨kt149, trivial, trivial, trivial, trivial⟩, trivial⟩, ⟨kt101, trivial, ⟨kt357, trivial, trivial, trivial, trivial⟩, ⟨kt165, trivial, trivial, trivial, trivial⟩, ⟨kt229, trivial, trivial, trivial, trivial⟩⟩, ⟨kt53, trivial, ⟨kt117, trivial, trivial, trivial, trivial⟩, ⟨kt181, trivial, trivial, trivial, trivial⟩, ⟨kt245, trivial, trivial, trivial, trivial⟩⟩⟩, ⟨kt25, ⟨kt265, trivial, ⟨kt329, trivial, trivial, trivial, trivial⟩, ⟨kt393, trivial, trivial, trivial, trivial⟩, trivial⟩, ⟨kt89, trivial, trivial, ⟨kt153, trivial, trivial, trivial, trivial⟩, trivial⟩, ⟨kt41, trivial, ⟨kt105, trivial, trivial, trivial, trivial⟩, ⟨kt169, trivial, trivial, trivial, trivial⟩, ⟨kt233, trivial, trivial, trivial, trivial⟩⟩, ⟨kt57, trivial, trivial, ⟨kt185, trivial, trivial, trivial, trivial⟩, ⟨kt249, trivial, trivial, trivial, trivial⟩⟩⟩, ⟨kt29, ⟨kt77, trivial, trivial, ⟨kt141, trivial, trivial, trivial, trivial⟩, trivial⟩, ⟨kt93, trivial, ⟨kt349, trivial, trivial, trivial, trivial⟩, ⟨kt157, trivial, trivial, trivial, trivial⟩, trivial⟩, ⟨kt109, trivial, trivial, ⟨kt173, trivial, trivial, trivial, trivial⟩, ⟨kt237, trivial, trivial, trivial, trivial⟩⟩, ⟨kt61, ⟨kt317, trivial, trivial, trivial, trivial⟩, ⟨kt381, trivial, trivial, trivial, trivial⟩, ⟨kt189, trivial, trivial, trivial, trivial⟩, ⟨kt253, trivial, trivial, trivial, trivial⟩⟩⟩⟩, ⟨kt10, ⟨kt18, ⟨kt194, ⟨kt258, trivial, trivial, trivial, trivial⟩, ⟨kt322, trivial, trivial, trivial, trivial⟩, trivial, trivial⟩, ⟨kt146, trivial, trivial, trivial, trivial⟩, ⟨kt34, trivial, ⟨kt98, trivial, ⟨kt354, trivial, trivial, trivial, trivial⟩, trivial, trivial⟩, ⟨kt162, trivial, trivial, trivial, trivial⟩, ⟨kt226, trivial, trivial, trivial, trivial⟩⟩, ⟨kt50, ⟨kt306, trivial, trivial, trivial, trivial⟩, ⟨kt114, trivial, trivial, trivial, trivial⟩, ⟨kt178, trivial, trivial, trivial, trivial⟩, ⟨kt242, trivial, trivial, trivial, trivial⟩⟩⟩, ⟨kt22, ⟨kt262, trivial, ⟨kt326, trivial, trivial, trivial, trivial⟩, ⟨kt390, trivial, trivial, trivial, trivial⟩, trivial⟩, ⟨kt86, trivial, trivial, ⟨kt150, trivial, trivial, trivial, trivial⟩, trivial⟩, ⟨kt38, ⟨kt294, trivial, trivial, trivial, trivial⟩, ⟨kt102, trivial, trivial, trivial, trivial⟩, ⟨kt166, trivial, trivial, trivial, trivial⟩, ⟨kt230, trivial, trivial, trivial, trivial⟩⟩, ⟨kt54, ⟨kt310, trivial, trivial, trivial, trivial⟩, ⟨kt118, trivial, ⟨kt374, trivial, trivial, trivial, trivial⟩, trivial, trivial⟩, ⟨kt182, trivial, trivial, trivial, trivial⟩, ⟨kt246, trivial, trivial, trivial, trivial⟩⟩⟩, ⟨kt26, ⟨kt266, trivial, ⟨kt330, trivial, trivial, trivial, trivial⟩, ⟨kt394, trivial, trivial, trivial, trivial⟩, trivial⟩, ⟨kt90, trivial, ⟨kt346, trivial, trivial, trivial, trivial⟩, ⟨kt154, trivial, trivial, trivial, trivial⟩, trivial⟩, ⟨kt42, ⟨kt298, trivial, trivial, trivial, trivial⟩, ⟨kt106, trivial, ⟨kt362, trivial, trivial, trivial, trivial⟩, trivial, trivial⟩, ⟨kt170, trivial, trivial, trivial, trivial⟩, ⟨kt234, trivial, trivial, trivial, trivial⟩⟩, ⟨kt58, trivial, ⟨kt122, trivial, trivial, trivial, trivial⟩, ⟨kt186, trivial, trivial, trivial, trivial⟩, ⟨kt250, trivial, trivial, trivial, trivial⟩⟩⟩, ⟨kt30, ⟨kt142, trivial, trivial, trivial, trivial⟩, ⟨kt94, trivial, ⟨kt350, trivial, trivial, trivial, trivial⟩, ⟨kt158, trivial, trivial, trivial, trivial⟩, trivial⟩, ⟨kt110, trivial, ⟨kt366, trivial, trivial, trivial, trivial⟩, ⟨kt174, trivial, trivial, trivial, trivial⟩, ⟨kt238, trivial, trivial, trivial, trivial⟩⟩, ⟨kt62, ⟨kt318, trivial, trivial, trivial, trivial⟩, trivial, trivial, ⟨kt254, trivial, trivial, trivial, trivial⟩⟩⟩⟩, ⟨kt11, ⟨kt35, ⟨kt67, ⟨kt259, trivial, trivial, trivial, trivial⟩, trivial, ⟨kt387, trivial, trivial, trivial, trivial⟩, trivial⟩, ⟨kt83, trivial, trivial, ⟨kt147, trivial, trivial, trivial, trivial⟩, trivial⟩, ⟨kt99, trivial, trivial, ⟨kt163, trivial, trivial, trivial, trivial⟩, ⟨kt227, trivial, trivial, trivial, trivial⟩⟩, ⟨kt51, ⟨kt307, trivial, trivial, trivial, trivial⟩, ⟨kt115, trivial, trivial, trivial, trivial⟩, trivial, ⟨kt243, trivial, trivial, trivial, trivial⟩⟩⟩, ⟨kt23, ⟨kt71, ⟨kt263, trivial, trivial, trivial, trivial⟩, ⟨kt327, trivial, trivial, trivial, trivial⟩, ⟨kt391, trivial, trivial, trivial, trivial⟩, trivial⟩, ⟨kt87, trivial, trivial, ⟨kt151, trivial, trivial, trivial, trivial⟩, trivial⟩, ⟨kt39, trivial, ⟨kt103, trivial, ⟨kt359, trivial, trivial, trivial, trivial⟩, trivial, trivial⟩, ⟨kt167, trivial, trivial, trivial, trivial⟩, ⟨kt231, trivial, trivial, trivial, trivial⟩⟩, ⟨kt55, ⟨kt311, trivial, trivial, trivial, trivial⟩, ⟨kt119, trivial, trivial, trivial, trivial⟩, ⟨kt183, trivial, trivial, trivial, trivial⟩, ⟨kt247, trivial, trivial, trivial, trivial⟩⟩⟩, ⟨kt27, ⟨kt75, ⟨kt267, trivial, trivial, trivial, trivial⟩, ⟨kt331, trivial, trivial, trivial, trivial⟩, trivial, trivial⟩, ⟨kt91, trivial, ⟨kt347, trivial, trivial, trivial, trivial⟩, ⟨kt155, trivial, trivial, trivial, trivial⟩, trivial⟩, ⟨kt43, trivial, ⟨kt107, trivial, trivial, trivial, trivial⟩, ⟨kt171, trivial, trivial, trivial, trivial⟩, ⟨kt235, trivial, trivial, trivial, trivial⟩⟩, ⟨kt59, trivial, trivial, ⟨kt187, trivial, trivial, trivial, trivial⟩, ⟨kt251, trivial, trivial, trivial, trivial⟩⟩⟩, ⟨kt31, ⟨kt143, trivial, trivial, trivial, trivial⟩, ⟨kt95, trivial, ⟨kt351, trivial, trivial, trivial, trivial⟩, ⟨kt159, trivial, trivial, trivial, trivial⟩, ⟨kt223, trivial, trivial, trivial, trivial⟩⟩, ⟨kt111, ⟨kt303, trivial, trivial, trivial, trivial⟩, ⟨kt367, trivial, trivial, trivial, trivial⟩, ⟨kt175, trivial, trivial, trivial, trivial⟩, ⟨kt239, trivial, trivial, trivial, trivial⟩⟩, ⟨kt63, ⟨kt319, trivial, trivial, trivial, trivial⟩, ⟨kt383, trivial, trivial, trivial, trivial⟩, ⟨kt191, trivial, trivial, trivial, trivial⟩, ⟨kt255, trivial, trivial, trivial, trivial⟩⟩⟩⟩⟩
noncomputable def FK : FuncId → Option KFn := fun f => trGet kfTree f
noncomputable def FC : FuncId → Option CFn := fun f => match FK f with
  | some _ => cFn Tryz.prog (cDraw Tryz.prog) f
  | none => none
theorem FC_ok : ∀ f cf, FC f = some cf → cFn Tryz.prog (cDraw Tryz.prog) f = some cf := fun f cf h => by
  unfold FC at h
  split at h
  · exact h
  · cases h
theorem FK_eq : ∀ f, FK f = (FC f).map toK := fun f => by
  unfold FC
  cases h : FK f with
  | none => rfl
  | some k =>
    have h : trGet kfTree f = some k := h
    rw [trGet_eq] at h
    exact (Tr.all_get kfTree_all h).symm
/-- the closures are sound -/
theorem callK_ok {sm : Summ} (hsm : SumOK Tryz.prog sm) {ds : DSum} (hds : DefOK Tryz.prog ds) (N n : Nat) : CallOK Tryz.prog (callK FK sm ds N n) := by
  rw [callK_eq FK_eq]
  exact xcall_sound FC_ok hsm hds (draw_ok (by kernel_rfl)) N n
end Go.Proofs.YtbilacojhmohmaaGreat.Ae
