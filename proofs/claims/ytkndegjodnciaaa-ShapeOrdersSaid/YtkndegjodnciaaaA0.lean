/- The seat's table: made by gen0.py out of the translation. -/
import Derived.Test.YtkndegjodnciaaaProg
import Derived.Test.YtkndegjodnciaaaA6
import Derived.KernelRfl
set_option linter.unusedVariables false
set_option linter.unusedSimpArgs false
namespace Go.Proofs.Ytkndegjodnciaaa
namespace SC
open Go.Proofs
instance : Fn Try.prog 3 := ⟨fun args w => Try.call3 args w⟩
instance : Fn Try.prog 4 := ⟨fun args w => Try.call4 args w⟩
instance : Fn Try.prog 5 := ⟨fun args w => Try.call5 args w⟩
instance : Fn Try.prog 6 := ⟨fun args w => Try.call6 args w⟩
instance : Fn Try.prog 7 := ⟨fun args w => Try.call7 args w⟩
instance : Fn Try.prog 8 := ⟨fun args w => Try.call8 args w⟩
instance : Fn Try.prog 9 := ⟨fun args w => Try.call9 args w⟩
instance : Fn Try.prog 10 := ⟨fun args w => Try.call10 args w⟩
instance : Fn Try.prog 11 := ⟨fun args w => Try.call11 args w⟩
instance : Fn Try.prog 12 := ⟨fun args w => Try.call12 args w⟩
instance : Fn Try.prog 13 := ⟨fun args w => Try.call13 args w⟩
instance : Fn Try.prog 14 := ⟨fun args w => Try.call14 args w⟩
instance : Fn Try.prog 15 := ⟨fun args w => Try.call15 args w⟩
instance : Fn Try.prog 16 := ⟨fun args w => Try.call16 args w⟩
instance : Fn Try.prog 17 := ⟨fun args w => Try.call17 args w⟩
instance : Fn Try.prog 18 := ⟨fun args w => Try.call18 args w⟩
instance : Fn Try.prog 19 := ⟨fun args w => Try.call19 args w⟩
instance : Fn Try.prog 20 := ⟨fun args w => Try.call20 args w⟩
instance : Fn Try.prog 21 := ⟨fun args w => Try.call21 args w⟩
instance : Fn Try.prog 22 := ⟨fun args w => Try.call22 args w⟩
instance : Fn Try.prog 23 := ⟨fun args w => Try.call23 args w⟩
instance : Fn Try.prog 24 := ⟨fun args w => Try.call24 args w⟩
instance : Fn Try.prog 25 := ⟨fun args w => Try.call25 args w⟩
instance : Fn Try.prog 26 := ⟨fun args w => Try.call26 args w⟩
instance : Fn Try.prog 27 := ⟨fun args w => Try.call27 args w⟩
instance : Fn Try.prog 28 := ⟨fun args w => Try.call28 args w⟩
instance : Fn Try.prog 29 := ⟨fun args w => Try.call29 args w⟩
instance : Fn Try.prog 30 := ⟨fun args w => Try.call30 args w⟩
instance : Fn Try.prog 31 := ⟨fun args w => Try.call31 args w⟩
instance : Fn Try.prog 32 := ⟨fun args w => Try.call32 args w⟩
instance : Fn Try.prog 33 := ⟨fun args w => Try.call33 args w⟩
instance : Fn Try.prog 34 := ⟨fun args w => Try.call34 args w⟩
instance : Fn Try.prog 35 := ⟨fun args w => Try.call35 args w⟩
instance : Fn Try.prog 36 := ⟨fun args w => Try.call36 args w⟩
instance : Fn Try.prog 37 := ⟨fun args w => Try.call37 args w⟩
instance : Fn Try.prog 38 := ⟨fun args w => Try.call38 args w⟩
instance : Fn Try.prog 39 := ⟨fun args w => Try.call39 args w⟩
instance : Fn Try.prog 40 := ⟨fun args w => Try.call40 args w⟩
instance : Fn Try.prog 41 := ⟨fun args w => Try.call41 args w⟩
instance : Fn Try.prog 42 := ⟨fun args w => Try.call42 args w⟩
instance : Fn Try.prog 43 := ⟨fun args w => Try.call43 args w⟩
instance : Fn Try.prog 44 := ⟨fun args w => Try.call44 args w⟩
instance : Fn Try.prog 45 := ⟨fun args w => Try.call45 args w⟩
instance : Fn Try.prog 46 := ⟨fun args w => Try.call46 args w⟩
instance : Fn Try.prog 47 := ⟨fun args w => Try.call47 args w⟩
instance : Fn Try.prog 48 := ⟨fun args w => Try.call48 args w⟩
instance : Fn Try.prog 49 := ⟨fun args w => Try.call49 args w⟩
instance : Fn Try.prog 50 := ⟨fun args w => Try.call50 args w⟩
instance : Fn Try.prog 51 := ⟨fun args w => Try.call51 args w⟩
instance : Fn Try.prog 52 := ⟨fun args w => Try.call52 args w⟩
instance : Fn Try.prog 53 := ⟨fun args w => Try.call53 args w⟩
instance : Fn Try.prog 54 := ⟨fun args w => Try.call54 args w⟩
instance : Fn Try.prog 55 := ⟨fun args w => Try.call55 args w⟩
instance : Fn Try.prog 56 := ⟨fun args w => Try.call56 args w⟩
instance : Fn Try.prog 57 := ⟨fun args w => Try.call57 args w⟩
instance : Fn Try.prog 58 := ⟨fun args w => Try.call58 args w⟩
instance : Fn Try.prog 59 := ⟨fun args w => Try.call59 args w⟩
instance : Fn Try.prog 60 := ⟨fun args w => Try.call60 args w⟩
instance : Fn Try.prog 61 := ⟨fun args w => Try.call61 args w⟩
instance : Fn Try.prog 62 := ⟨fun args w => Try.call62 args w⟩
instance : Fn Try.prog 63 := ⟨fun args w => Try.call63 args w⟩
instance : Fn Try.prog 64 := ⟨fun args w => Try.call64 args w⟩
instance : Fn Try.prog 65 := ⟨fun args w => Try.call65 args w⟩
instance : Fn Try.prog 66 := ⟨fun args w => Try.call66 args w⟩
instance : Fn Try.prog 67 := ⟨fun args w => Try.call67 args w⟩
instance : Fn Try.prog 68 := ⟨fun args w => Try.call68 args w⟩
instance : Fn Try.prog 69 := ⟨fun args w => Try.call69 args w⟩
instance : Fn Try.prog 70 := ⟨fun args w => Try.call70 args w⟩
instance : Fn Try.prog 71 := ⟨fun args w => Try.call71 args w⟩
instance : Fn Try.prog 72 := ⟨fun args w => Try.call72 args w⟩
instance : Fn Try.prog 73 := ⟨fun args w => Try.call73 args w⟩
instance : Fn Try.prog 74 := ⟨fun args w => Try.call74 args w⟩
instance : Fn Try.prog 75 := ⟨fun args w => Try.call75 args w⟩
instance : Fn Try.prog 76 := ⟨fun args w => Try.call76 args w⟩
instance : Fn Try.prog 77 := ⟨fun args w => Try.call77 args w⟩
instance : Fn Try.prog 78 := ⟨fun args w => Try.call78 args w⟩
instance : Fn Try.prog 79 := ⟨fun args w => Try.call79 args w⟩
instance : Fn Try.prog 80 := ⟨fun args w => Try.call80 args w⟩
instance : Fn Try.prog 81 := ⟨fun args w => Try.call81 args w⟩
instance : Fn Try.prog 82 := ⟨fun args w => Try.call82 args w⟩
instance : Fn Try.prog 83 := ⟨fun args w => Try.call83 args w⟩
instance : Fn Try.prog 84 := ⟨fun args w => Try.call84 args w⟩
instance : Fn Try.prog 85 := ⟨fun args w => Try.call85 args w⟩
instance : Fn Try.prog 86 := ⟨fun args w => Try.call86 args w⟩
instance : Fn Try.prog 87 := ⟨fun args w => Try.call87 args w⟩
instance : Fn Try.prog 88 := ⟨fun args w => Try.call88 args w⟩
instance : Fn Try.prog 89 := ⟨fun args w => Try.call89 args w⟩
instance : Fn Try.prog 90 := ⟨fun args w => Try.call90 args w⟩
instance : Fn Try.prog 91 := ⟨fun args w => Try.call91 args w⟩
instance : Fn Try.prog 92 := ⟨fun args w => Try.call92 args w⟩
instance : Fn Try.prog 93 := ⟨fun args w => Try.call93 args w⟩
instance : Fn Try.prog 94 := ⟨fun args w => Try.call94 args w⟩
instance : Fn Try.prog 95 := ⟨fun args w => Try.call95 args w⟩
instance : Fn Try.prog 96 := ⟨fun args w => Try.call96 args w⟩
instance : Fn Try.prog 97 := ⟨fun args w => Try.call97 args w⟩
instance : Fn Try.prog 98 := ⟨fun args w => Try.call98 args w⟩
instance : Fn Try.prog 99 := ⟨fun args w => Try.call99 args w⟩
instance : Fn Try.prog 100 := ⟨fun args w => Try.call100 args w⟩
instance : Fn Try.prog 104 := ⟨fun args w => Try.call104 args w⟩
instance : Fn Try.prog 105 := ⟨fun args w => Try.call105 args w⟩
instance : Fn Try.prog 106 := ⟨fun args w => Try.call106 args w⟩
instance : Fn Try.prog 107 := ⟨fun args w => Try.call107 args w⟩
instance : Fn Try.prog 108 := ⟨fun args w => Try.call108 args w⟩
instance : Fn Try.prog 109 := ⟨fun args w => Try.call109 args w⟩
instance : Fn Try.prog 110 := ⟨fun args w => Try.call110 args w⟩
instance : Fn Try.prog 111 := ⟨fun args w => Try.call111 args w⟩
instance : Fn Try.prog 112 := ⟨fun args w => Try.call112 args w⟩
instance : Fn Try.prog 113 := ⟨fun args w => Try.call113 args w⟩
instance : Fn Try.prog 114 := ⟨fun args w => Try.call114 args w⟩
instance : Fn Try.prog 115 := ⟨fun args w => Try.call115 args w⟩
instance : Fn Try.prog 116 := ⟨fun args w => Try.call116 args w⟩
instance : Fn Try.prog 117 := ⟨fun args w => Try.call117 args w⟩
instance : Fn Try.prog 118 := ⟨fun args w => Try.call118 args w⟩
instance : Fn Try.prog 119 := ⟨fun args w => Try.call119 args w⟩
instance : Fn Try.prog 120 := ⟨fun args w => Try.call120 args w⟩
instance : Fn Try.prog 121 := ⟨fun args w => Try.call121 args w⟩
instance : Fn Try.prog 122 := ⟨fun args w => Try.call122 args w⟩
instance : Fn Try.prog 123 := ⟨fun args w => Try.call123 args w⟩
instance : Fn Try.prog 124 := ⟨fun args w => Try.call124 args w⟩
instance : Fn Try.prog 125 := ⟨fun args w => Try.call125 args w⟩
instance : Fn Try.prog 126 := ⟨fun args w => Try.call126 args w⟩
instance : Fn Try.prog 127 := ⟨fun args w => Try.call127 args w⟩
instance : Fn Try.prog 128 := ⟨fun args w => Try.call128 args w⟩
instance : Fn Try.prog 129 := ⟨fun args w => Try.call129 args w⟩
instance : Fn Try.prog 130 := ⟨fun args w => Try.call130 args w⟩
instance : Fn Try.prog 131 := ⟨fun args w => Try.call131 args w⟩
instance : Fn Try.prog 132 := ⟨fun args w => Try.call132 args w⟩
instance : Fn Try.prog 133 := ⟨fun args w => Try.call133 args w⟩
instance : Fn Try.prog 134 := ⟨fun args w => Try.call134 args w⟩
instance : Fn Try.prog 135 := ⟨fun args w => Try.call135 args w⟩
instance : Fn Try.prog 136 := ⟨fun args w => Try.call136 args w⟩
instance : Fn Try.prog 137 := ⟨fun args w => Try.call137 args w⟩
instance : Fn Try.prog 138 := ⟨fun args w => Try.call138 args w⟩
instance : Fn Try.prog 144 := ⟨fun args w => Try.call144 args w⟩
instance : Fn Try.prog 145 := ⟨fun args w => Try.call145 args w⟩
instance : Fn Try.prog 147 := ⟨fun args w => Try.call147 args w⟩
instance : Fn Try.prog 148 := ⟨fun args w => Try.call148 args w⟩
instance : Fn Try.prog 149 := ⟨fun args w => Try.call149 args w⟩
instance : Fn Try.prog 151 := ⟨fun args w => Try.call151 args w⟩
instance : Fn Try.prog 152 := ⟨fun args w => Try.call152 args w⟩
instance : Fn Try.prog 153 := ⟨fun args w => Try.call153 args w⟩
instance : Fn Try.prog 154 := ⟨fun args w => Try.call154 args w⟩
instance : Fn Try.prog 155 := ⟨fun args w => Try.call155 args w⟩
instance : Fn Try.prog 156 := ⟨fun args w => Try.call156 args w⟩
instance : Fn Try.prog 157 := ⟨fun args w => Try.call157 args w⟩
instance : Fn Try.prog 160 := ⟨fun args w => Try.call160 args w⟩
instance : Ty Try.prog 2 (Go.TypeDesc.int Go.IntKind.i64) 1 (.int .i64 0) 8 false := ⟨Try.underlying2, by kernel_rfl, fun w => Try.zeroValue2 w, fun w => Try.sizeOf2 w, fun w => Try.isAgg2 w⟩
instance : Ty Try.prog 3 (Go.TypeDesc.int Go.IntKind.i64) 1 (.int .i64 0) 8 false := ⟨Try.underlying3, by kernel_rfl, fun w => Try.zeroValue3 w, fun w => Try.sizeOf3 w, fun w => Try.isAgg3 w⟩
instance : Ty Try.prog 4 Go.TypeDesc.bool 1 (.bool false) 1 false := ⟨Try.underlying4, by kernel_rfl, fun w => Try.zeroValue4 w, fun w => Try.sizeOf4 w, fun w => Try.isAgg4 w⟩
instance : Ty Try.prog 5 (Go.TypeDesc.int Go.IntKind.u8) 1 (.int .u8 0) 1 false := ⟨Try.underlying5, by kernel_rfl, fun w => Try.zeroValue5 w, fun w => Try.sizeOf5 w, fun w => Try.isAgg5 w⟩
instance : Ty Try.prog 9 Go.TypeDesc.string 1 (.string ⟨#[]⟩) 16 false := ⟨Try.underlying9, by kernel_rfl, fun w => Try.zeroValue9 w, fun w => Try.sizeOf9 w, fun w => Try.isAgg9 w⟩
instance : Ty Try.prog 10 Go.TypeDesc.string 1 (.string ⟨#[]⟩) 16 false := ⟨Try.underlying10, by kernel_rfl, fun w => Try.zeroValue10 w, fun w => Try.sizeOf10 w, fun w => Try.isAgg10 w⟩
instance : Ty Try.prog 22 (Go.TypeDesc.struct #[{ name := "Inputs", type := 3, offset := 0, embedded := false, tag := "", pkgPath := "", byteOffset := 0 }, { name := "Latches", type := 3, offset := 1, embedded := false, tag := "", pkgPath := "", byteOffset := 8 }]) 2 (.agg #[(.int .i64 0), (.int .i64 0)]) 16 true := ⟨Try.underlying22, by kernel_rfl, fun w => Try.zeroValue22 w, fun w => Try.sizeOf22 w, fun w => Try.isAgg22 w⟩
instance : Ty Try.prog 23 (Go.TypeDesc.struct #[{ name := "Inputs", type := 3, offset := 0, embedded := false, tag := "", pkgPath := "", byteOffset := 0 }, { name := "Latches", type := 3, offset := 1, embedded := false, tag := "", pkgPath := "", byteOffset := 8 }]) 2 (.agg #[(.int .i64 0), (.int .i64 0)]) 16 true := ⟨Try.underlying23, by kernel_rfl, fun w => Try.zeroValue23 w, fun w => Try.sizeOf23 w, fun w => Try.isAgg23 w⟩
instance : Ty Try.prog 24 (Go.TypeDesc.slice 35) 1 (.slice none 0 0) 24 false := ⟨Try.underlying24, by kernel_rfl, fun w => Try.zeroValue24 w, fun w => Try.sizeOf24 w, fun w => Try.isAgg24 w⟩
instance : Ty Try.prog 25 (Go.TypeDesc.pointer 98) 1 (.pointer none) 8 false := ⟨Try.underlying25, by kernel_rfl, fun w => Try.zeroValue25 w, fun w => Try.sizeOf25 w, fun w => Try.isAgg25 w⟩
instance : Ty Try.prog 26 (Go.TypeDesc.int Go.IntKind.i64) 1 (.int .i64 0) 8 false := ⟨Try.underlying26, by kernel_rfl, fun w => Try.zeroValue26 w, fun w => Try.sizeOf26 w, fun w => Try.isAgg26 w⟩
instance : Ty Try.prog 29 (Go.TypeDesc.pointer 39) 1 (.pointer none) 8 false := ⟨Try.underlying29, by kernel_rfl, fun w => Try.zeroValue29 w, fun w => Try.sizeOf29 w, fun w => Try.isAgg29 w⟩
instance : Ty Try.prog 34 (Go.TypeDesc.struct #[{ name := "Kind", type := 3, offset := 0, embedded := false, tag := "", pkgPath := "", byteOffset := 0 }, { name := "S", type := 3, offset := 1, embedded := false, tag := "", pkgPath := "", byteOffset := 8 }, { name := "X", type := 3, offset := 2, embedded := false, tag := "", pkgPath := "", byteOffset := 16 }, { name := "Y", type := 3, offset := 3, embedded := false, tag := "", pkgPath := "", byteOffset := 24 }]) 4 (.agg #[(.int .i64 0), (.int .i64 0), (.int .i64 0), (.int .i64 0)]) 32 true := ⟨Try.underlying34, by kernel_rfl, fun w => Try.zeroValue34 w, fun w => Try.sizeOf34 w, fun w => Try.isAgg34 w⟩
instance : Ty Try.prog 35 (Go.TypeDesc.struct #[{ name := "Kind", type := 3, offset := 0, embedded := false, tag := "", pkgPath := "", byteOffset := 0 }, { name := "S", type := 3, offset := 1, embedded := false, tag := "", pkgPath := "", byteOffset := 8 }, { name := "X", type := 3, offset := 2, embedded := false, tag := "", pkgPath := "", byteOffset := 16 }, { name := "Y", type := 3, offset := 3, embedded := false, tag := "", pkgPath := "", byteOffset := 24 }]) 4 (.agg #[(.int .i64 0), (.int .i64 0), (.int .i64 0), (.int .i64 0)]) 32 true := ⟨Try.underlying35, by kernel_rfl, fun w => Try.zeroValue35 w, fun w => Try.sizeOf35 w, fun w => Try.isAgg35 w⟩
instance : Ty Try.prog 37 (Go.TypeDesc.slice 43) 1 (.slice none 0 0) 24 false := ⟨Try.underlying37, by kernel_rfl, fun w => Try.zeroValue37 w, fun w => Try.sizeOf37 w, fun w => Try.isAgg37 w⟩
instance : Ty Try.prog 38 (Go.TypeDesc.struct #[{ name := "Inputs", type := 3, offset := 0, embedded := false, tag := "", pkgPath := "", byteOffset := 0 }, { name := "Latches", type := 3, offset := 1, embedded := false, tag := "", pkgPath := "", byteOffset := 8 }, { name := "Ands", type := 37, offset := 2, embedded := false, tag := "", pkgPath := "", byteOffset := 16 }]) 3 (.agg #[(.int .i64 0), (.int .i64 0), (.slice none 0 0)]) 40 true := ⟨Try.underlying38, by kernel_rfl, fun w => Try.zeroValue38 w, fun w => Try.sizeOf38 w, fun w => Try.isAgg38 w⟩
instance : Ty Try.prog 39 (Go.TypeDesc.struct #[{ name := "Inputs", type := 3, offset := 0, embedded := false, tag := "", pkgPath := "", byteOffset := 0 }, { name := "Latches", type := 3, offset := 1, embedded := false, tag := "", pkgPath := "", byteOffset := 8 }, { name := "Ands", type := 37, offset := 2, embedded := false, tag := "", pkgPath := "", byteOffset := 16 }]) 3 (.agg #[(.int .i64 0), (.int .i64 0), (.slice none 0 0)]) 40 true := ⟨Try.underlying39, by kernel_rfl, fun w => Try.zeroValue39 w, fun w => Try.sizeOf39 w, fun w => Try.isAgg39 w⟩
instance : Ty Try.prog 42 (Go.TypeDesc.struct #[{ name := "Out", type := 3, offset := 0, embedded := false, tag := "", pkgPath := "", byteOffset := 0 }, { name := "Left", type := 3, offset := 1, embedded := false, tag := "", pkgPath := "", byteOffset := 8 }, { name := "Right", type := 3, offset := 2, embedded := false, tag := "", pkgPath := "", byteOffset := 16 }]) 3 (.agg #[(.int .i64 0), (.int .i64 0), (.int .i64 0)]) 24 true := ⟨Try.underlying42, by kernel_rfl, fun w => Try.zeroValue42 w, fun w => Try.sizeOf42 w, fun w => Try.isAgg42 w⟩
instance : Ty Try.prog 43 (Go.TypeDesc.struct #[{ name := "Out", type := 3, offset := 0, embedded := false, tag := "", pkgPath := "", byteOffset := 0 }, { name := "Left", type := 3, offset := 1, embedded := false, tag := "", pkgPath := "", byteOffset := 8 }, { name := "Right", type := 3, offset := 2, embedded := false, tag := "", pkgPath := "", byteOffset := 16 }]) 3 (.agg #[(.int .i64 0), (.int .i64 0), (.int .i64 0)]) 24 true := ⟨Try.underlying43, by kernel_rfl, fun w => Try.zeroValue43 w, fun w => Try.sizeOf43 w, fun w => Try.isAgg43 w⟩
instance : Ty Try.prog 45 (Go.TypeDesc.slice 3) 1 (.slice none 0 0) 24 false := ⟨Try.underlying45, by kernel_rfl, fun w => Try.zeroValue45 w, fun w => Try.sizeOf45 w, fun w => Try.isAgg45 w⟩
instance : Ty Try.prog 46 (Go.TypeDesc.slice 70) 1 (.slice none 0 0) 24 false := ⟨Try.underlying46, by kernel_rfl, fun w => Try.zeroValue46 w, fun w => Try.sizeOf46 w, fun w => Try.isAgg46 w⟩
instance : Ty Try.prog 47 (Go.TypeDesc.slice 45) 1 (.slice none 0 0) 24 false := ⟨Try.underlying47, by kernel_rfl, fun w => Try.zeroValue47 w, fun w => Try.sizeOf47 w, fun w => Try.isAgg47 w⟩
instance : Ty Try.prog 48 (Go.TypeDesc.slice 117) 1 (.slice none 0 0) 24 false := ⟨Try.underlying48, by kernel_rfl, fun w => Try.zeroValue48 w, fun w => Try.sizeOf48 w, fun w => Try.isAgg48 w⟩
instance : Ty Try.prog 49 (Go.TypeDesc.slice 9) 1 (.slice none 0 0) 24 false := ⟨Try.underlying49, by kernel_rfl, fun w => Try.zeroValue49 w, fun w => Try.sizeOf49 w, fun w => Try.isAgg49 w⟩
instance : Ty Try.prog 50 (Go.TypeDesc.struct #[{ name := "Max", type := 3, offset := 0, embedded := false, tag := "", pkgPath := "", byteOffset := 0 }, { name := "Inputs", type := 45, offset := 1, embedded := false, tag := "", pkgPath := "", byteOffset := 8 }, { name := "Latches", type := 46, offset := 2, embedded := false, tag := "", pkgPath := "", byteOffset := 32 }, { name := "Outputs", type := 45, offset := 3, embedded := false, tag := "", pkgPath := "", byteOffset := 56 }, { name := "Bads", type := 45, offset := 4, embedded := false, tag := "", pkgPath := "", byteOffset := 80 }, { name := "Constraints", type := 45, offset := 5, embedded := false, tag := "", pkgPath := "", byteOffset := 104 }, { name := "Justice", type := 47, offset := 6, embedded := false, tag := "", pkgPath := "", byteOffset := 128 }, { name := "Fairness", type := 45, offset := 7, embedded := false, tag := "", pkgPath := "", byteOffset := 152 }, { name := "Ands", type := 37, offset := 8, embedded := false, tag := "", pkgPath := "", byteOffset := 176 }, { name := "Symbols", type := 48, offset := 9, embedded := false, tag := "", pkgPath := "", byteOffset := 200 }, { name := "Comments", type := 49, offset := 10, embedded := false, tag := "", pkgPath := "", byteOffset := 224 }]) 11 (.agg #[(.int .i64 0), (.slice none 0 0), (.slice none 0 0), (.slice none 0 0), (.slice none 0 0), (.slice none 0 0), (.slice none 0 0), (.slice none 0 0), (.slice none 0 0), (.slice none 0 0), (.slice none 0 0)]) 248 true := ⟨Try.underlying50, by kernel_rfl, fun w => Try.zeroValue50 w, fun w => Try.sizeOf50 w, fun w => Try.isAgg50 w⟩
instance : Ty Try.prog 51 (Go.TypeDesc.struct #[{ name := "Max", type := 3, offset := 0, embedded := false, tag := "", pkgPath := "", byteOffset := 0 }, { name := "Inputs", type := 45, offset := 1, embedded := false, tag := "", pkgPath := "", byteOffset := 8 }, { name := "Latches", type := 46, offset := 2, embedded := false, tag := "", pkgPath := "", byteOffset := 32 }, { name := "Outputs", type := 45, offset := 3, embedded := false, tag := "", pkgPath := "", byteOffset := 56 }, { name := "Bads", type := 45, offset := 4, embedded := false, tag := "", pkgPath := "", byteOffset := 80 }, { name := "Constraints", type := 45, offset := 5, embedded := false, tag := "", pkgPath := "", byteOffset := 104 }, { name := "Justice", type := 47, offset := 6, embedded := false, tag := "", pkgPath := "", byteOffset := 128 }, { name := "Fairness", type := 45, offset := 7, embedded := false, tag := "", pkgPath := "", byteOffset := 152 }, { name := "Ands", type := 37, offset := 8, embedded := false, tag := "", pkgPath := "", byteOffset := 176 }, { name := "Symbols", type := 48, offset := 9, embedded := false, tag := "", pkgPath := "", byteOffset := 200 }, { name := "Comments", type := 49, offset := 10, embedded := false, tag := "", pkgPath := "", byteOffset := 224 }]) 11 (.agg #[(.int .i64 0), (.slice none 0 0), (.slice none 0 0), (.slice none 0 0), (.slice none 0 0), (.slice none 0 0), (.slice none 0 0), (.slice none 0 0), (.slice none 0 0), (.slice none 0 0), (.slice none 0 0)]) 248 true := ⟨Try.underlying51, by kernel_rfl, fun w => Try.zeroValue51 w, fun w => Try.sizeOf51 w, fun w => Try.isAgg51 w⟩
instance : Ty Try.prog 57 (Go.TypeDesc.func #[45, 45] #[4] false) 1 .nilFunc 8 false := ⟨Try.underlying57, by kernel_rfl, fun w => Try.zeroValue57 w, fun w => Try.sizeOf57 w, fun w => Try.isAgg57 w⟩
instance : Ty Try.prog 62 (Go.TypeDesc.slice 4) 1 (.slice none 0 0) 24 false := ⟨Try.underlying62, by kernel_rfl, fun w => Try.zeroValue62 w, fun w => Try.sizeOf62 w, fun w => Try.isAgg62 w⟩
instance : Ty Try.prog 63 (Go.TypeDesc.array 2 3) 2 (.agg #[(.int .i64 0), (.int .i64 0)]) 16 true := ⟨Try.underlying63, by kernel_rfl, fun w => Try.zeroValue63 w, fun w => Try.sizeOf63 w, fun w => Try.isAgg63 w⟩
instance : Ty Try.prog 69 (Go.TypeDesc.struct #[{ name := "Lit", type := 3, offset := 0, embedded := false, tag := "", pkgPath := "", byteOffset := 0 }, { name := "Next", type := 3, offset := 1, embedded := false, tag := "", pkgPath := "", byteOffset := 8 }, { name := "Reset", type := 3, offset := 2, embedded := false, tag := "", pkgPath := "", byteOffset := 16 }]) 3 (.agg #[(.int .i64 0), (.int .i64 0), (.int .i64 0)]) 24 true := ⟨Try.underlying69, by kernel_rfl, fun w => Try.zeroValue69 w, fun w => Try.sizeOf69 w, fun w => Try.isAgg69 w⟩
instance : Ty Try.prog 70 (Go.TypeDesc.struct #[{ name := "Lit", type := 3, offset := 0, embedded := false, tag := "", pkgPath := "", byteOffset := 0 }, { name := "Next", type := 3, offset := 1, embedded := false, tag := "", pkgPath := "", byteOffset := 8 }, { name := "Reset", type := 3, offset := 2, embedded := false, tag := "", pkgPath := "", byteOffset := 16 }]) 3 (.agg #[(.int .i64 0), (.int .i64 0), (.int .i64 0)]) 24 true := ⟨Try.underlying70, by kernel_rfl, fun w => Try.zeroValue70 w, fun w => Try.sizeOf70 w, fun w => Try.isAgg70 w⟩
instance : Ty Try.prog 71 (Go.TypeDesc.slice 62) 1 (.slice none 0 0) 24 false := ⟨Try.underlying71, by kernel_rfl, fun w => Try.zeroValue71 w, fun w => Try.sizeOf71 w, fun w => Try.isAgg71 w⟩
instance : Ty Try.prog 72 (Go.TypeDesc.struct #[{ name := "Init", type := 62, offset := 0, embedded := false, tag := "", pkgPath := "", byteOffset := 0 }, { name := "Inputs", type := 71, offset := 1, embedded := false, tag := "", pkgPath := "", byteOffset := 24 }, { name := "Loop", type := 3, offset := 2, embedded := false, tag := "", pkgPath := "", byteOffset := 48 }]) 3 (.agg #[(.slice none 0 0), (.slice none 0 0), (.int .i64 0)]) 56 true := ⟨Try.underlying72, by kernel_rfl, fun w => Try.zeroValue72 w, fun w => Try.sizeOf72 w, fun w => Try.isAgg72 w⟩
instance : Ty Try.prog 73 (Go.TypeDesc.struct #[{ name := "Init", type := 62, offset := 0, embedded := false, tag := "", pkgPath := "", byteOffset := 0 }, { name := "Inputs", type := 71, offset := 1, embedded := false, tag := "", pkgPath := "", byteOffset := 24 }, { name := "Loop", type := 3, offset := 2, embedded := false, tag := "", pkgPath := "", byteOffset := 48 }]) 3 (.agg #[(.slice none 0 0), (.slice none 0 0), (.int .i64 0)]) 56 true := ⟨Try.underlying73, by kernel_rfl, fun w => Try.zeroValue73 w, fun w => Try.sizeOf73 w, fun w => Try.isAgg73 w⟩
instance : Ty Try.prog 75 (Go.TypeDesc.slice 82) 1 (.slice none 0 0) 24 false := ⟨Try.underlying75, by kernel_rfl, fun w => Try.zeroValue75 w, fun w => Try.sizeOf75 w, fun w => Try.isAgg75 w⟩
instance : Ty Try.prog 80 (Go.TypeDesc.slice 138) 1 (.slice none 0 0) 24 false := ⟨Try.underlying80, by kernel_rfl, fun w => Try.zeroValue80 w, fun w => Try.sizeOf80 w, fun w => Try.isAgg80 w⟩
instance : Ty Try.prog 81 (Go.TypeDesc.struct #[{ name := "State", type := 62, offset := 0, embedded := false, tag := "", pkgPath := "", byteOffset := 0 }, { name := "Holds", type := 4, offset := 1, embedded := false, tag := "", pkgPath := "", byteOffset := 24 }, { name := "Bads", type := 45, offset := 2, embedded := false, tag := "", pkgPath := "", byteOffset := 32 }, { name := "Fair", type := 80, offset := 3, embedded := false, tag := "", pkgPath := "", byteOffset := 56 }]) 4 (.agg #[(.slice none 0 0), (.bool false), (.slice none 0 0), (.slice none 0 0)]) 80 true := ⟨Try.underlying81, by kernel_rfl, fun w => Try.zeroValue81 w, fun w => Try.sizeOf81 w, fun w => Try.isAgg81 w⟩
instance : Ty Try.prog 82 (Go.TypeDesc.struct #[{ name := "State", type := 62, offset := 0, embedded := false, tag := "", pkgPath := "", byteOffset := 0 }, { name := "Holds", type := 4, offset := 1, embedded := false, tag := "", pkgPath := "", byteOffset := 24 }, { name := "Bads", type := 45, offset := 2, embedded := false, tag := "", pkgPath := "", byteOffset := 32 }, { name := "Fair", type := 80, offset := 3, embedded := false, tag := "", pkgPath := "", byteOffset := 56 }]) 4 (.agg #[(.slice none 0 0), (.bool false), (.slice none 0 0), (.slice none 0 0)]) 80 true := ⟨Try.underlying82, by kernel_rfl, fun w => Try.zeroValue82 w, fun w => Try.sizeOf82 w, fun w => Try.isAgg82 w⟩
instance : Ty Try.prog 86 (Go.TypeDesc.int Go.IntKind.u64) 1 (.int .u64 0) 8 false := ⟨Try.underlying86, by kernel_rfl, fun w => Try.zeroValue86 w, fun w => Try.sizeOf86 w, fun w => Try.isAgg86 w⟩
instance : Ty Try.prog 96 (Go.TypeDesc.map 168 3) 1 (.map none) 8 false := ⟨Try.underlying96, by kernel_rfl, fun w => Try.zeroValue96 w, fun w => Try.sizeOf96 w, fun w => Try.isAgg96 w⟩
instance : Ty Try.prog 97 (Go.TypeDesc.struct #[{ name := "inputs", type := 3, offset := 0, embedded := false, tag := "", pkgPath := "trestle/hash", byteOffset := 0 }, { name := "latches", type := 3, offset := 1, embedded := false, tag := "", pkgPath := "trestle/hash", byteOffset := 8 }, { name := "ands", type := 37, offset := 2, embedded := false, tag := "", pkgPath := "trestle/hash", byteOffset := 16 }, { name := "made", type := 96, offset := 3, embedded := false, tag := "", pkgPath := "trestle/hash", byteOffset := 40 }]) 4 (.agg #[(.int .i64 0), (.int .i64 0), (.slice none 0 0), (.map none)]) 48 true := ⟨Try.underlying97, by kernel_rfl, fun w => Try.zeroValue97 w, fun w => Try.sizeOf97 w, fun w => Try.isAgg97 w⟩
instance : Ty Try.prog 98 (Go.TypeDesc.struct #[{ name := "inputs", type := 3, offset := 0, embedded := false, tag := "", pkgPath := "trestle/hash", byteOffset := 0 }, { name := "latches", type := 3, offset := 1, embedded := false, tag := "", pkgPath := "trestle/hash", byteOffset := 8 }, { name := "ands", type := 37, offset := 2, embedded := false, tag := "", pkgPath := "trestle/hash", byteOffset := 16 }, { name := "made", type := 96, offset := 3, embedded := false, tag := "", pkgPath := "trestle/hash", byteOffset := 40 }]) 4 (.agg #[(.int .i64 0), (.int .i64 0), (.slice none 0 0), (.map none)]) 48 true := ⟨Try.underlying98, by kernel_rfl, fun w => Try.zeroValue98 w, fun w => Try.sizeOf98 w, fun w => Try.isAgg98 w⟩
instance : Ty Try.prog 104 (Go.TypeDesc.func #[45] #[45] false) 1 .nilFunc 8 false := ⟨Try.underlying104, by kernel_rfl, fun w => Try.zeroValue104 w, fun w => Try.sizeOf104 w, fun w => Try.isAgg104 w⟩
instance : Ty Try.prog 105 (Go.TypeDesc.pointer 150) 1 (.pointer none) 8 false := ⟨Try.underlying105, by kernel_rfl, fun w => Try.zeroValue105 w, fun w => Try.sizeOf105 w, fun w => Try.isAgg105 w⟩
instance : Ty Try.prog 116 (Go.TypeDesc.struct #[{ name := "Kind", type := 5, offset := 0, embedded := false, tag := "", pkgPath := "", byteOffset := 0 }, { name := "At", type := 3, offset := 1, embedded := false, tag := "", pkgPath := "", byteOffset := 8 }, { name := "Name", type := 9, offset := 2, embedded := false, tag := "", pkgPath := "", byteOffset := 16 }]) 3 (.agg #[(.int .u8 0), (.int .i64 0), (.string ⟨#[]⟩)]) 32 true := ⟨Try.underlying116, by kernel_rfl, fun w => Try.zeroValue116 w, fun w => Try.sizeOf116 w, fun w => Try.isAgg116 w⟩
instance : Ty Try.prog 117 (Go.TypeDesc.struct #[{ name := "Kind", type := 5, offset := 0, embedded := false, tag := "", pkgPath := "", byteOffset := 0 }, { name := "At", type := 3, offset := 1, embedded := false, tag := "", pkgPath := "", byteOffset := 8 }, { name := "Name", type := 9, offset := 2, embedded := false, tag := "", pkgPath := "", byteOffset := 16 }]) 3 (.agg #[(.int .u8 0), (.int .i64 0), (.string ⟨#[]⟩)]) 32 true := ⟨Try.underlying117, by kernel_rfl, fun w => Try.zeroValue117 w, fun w => Try.sizeOf117 w, fun w => Try.isAgg117 w⟩
instance : Ty Try.prog 126 (Go.TypeDesc.func #[3] #[] false) 1 .nilFunc 8 false := ⟨Try.underlying126, by kernel_rfl, fun w => Try.zeroValue126 w, fun w => Try.sizeOf126 w, fun w => Try.isAgg126 w⟩
instance : Ty Try.prog 127 (Go.TypeDesc.func #[3] #[3] false) 1 .nilFunc 8 false := ⟨Try.underlying127, by kernel_rfl, fun w => Try.zeroValue127 w, fun w => Try.sizeOf127 w, fun w => Try.isAgg127 w⟩
instance : Ty Try.prog 130 (Go.TypeDesc.pointer 163) 1 (.pointer none) 8 false := ⟨Try.underlying130, by kernel_rfl, fun w => Try.zeroValue130 w, fun w => Try.sizeOf130 w, fun w => Try.isAgg130 w⟩
instance : Ty Try.prog 137 (Go.TypeDesc.struct #[{ name := "At", type := 3, offset := 0, embedded := false, tag := "", pkgPath := "", byteOffset := 0 }, { name := "In", type := 3, offset := 1, embedded := false, tag := "", pkgPath := "", byteOffset := 8 }]) 2 (.agg #[(.int .i64 0), (.int .i64 0)]) 16 true := ⟨Try.underlying137, by kernel_rfl, fun w => Try.zeroValue137 w, fun w => Try.sizeOf137 w, fun w => Try.isAgg137 w⟩
instance : Ty Try.prog 138 (Go.TypeDesc.struct #[{ name := "At", type := 3, offset := 0, embedded := false, tag := "", pkgPath := "", byteOffset := 0 }, { name := "In", type := 3, offset := 1, embedded := false, tag := "", pkgPath := "", byteOffset := 8 }]) 2 (.agg #[(.int .i64 0), (.int .i64 0)]) 16 true := ⟨Try.underlying138, by kernel_rfl, fun w => Try.zeroValue138 w, fun w => Try.sizeOf138 w, fun w => Try.isAgg138 w⟩
instance : Ty Try.prog 147 (Go.TypeDesc.func #[3] #[4] false) 1 .nilFunc 8 false := ⟨Try.underlying147, by kernel_rfl, fun w => Try.zeroValue147 w, fun w => Try.sizeOf147 w, fun w => Try.isAgg147 w⟩
instance : Ty Try.prog 148 (Go.TypeDesc.slice 173) 1 (.slice none 0 0) 24 false := ⟨Try.underlying148, by kernel_rfl, fun w => Try.zeroValue148 w, fun w => Try.sizeOf148 w, fun w => Try.isAgg148 w⟩
instance : Ty Try.prog 149 (Go.TypeDesc.struct #[{ name := "c", type := 51, offset := 0, embedded := false, tag := "", pkgPath := "trestle/shape", byteOffset := 0 }, { name := "by", type := 148, offset := 11, embedded := false, tag := "", pkgPath := "trestle/shape", byteOffset := 248 }]) 12 (.agg #[(.int .i64 0), (.slice none 0 0), (.slice none 0 0), (.slice none 0 0), (.slice none 0 0), (.slice none 0 0), (.slice none 0 0), (.slice none 0 0), (.slice none 0 0), (.slice none 0 0), (.slice none 0 0), (.slice none 0 0)]) 272 true := ⟨Try.underlying149, by kernel_rfl, fun w => Try.zeroValue149 w, fun w => Try.sizeOf149 w, fun w => Try.isAgg149 w⟩
instance : Ty Try.prog 150 (Go.TypeDesc.struct #[{ name := "c", type := 51, offset := 0, embedded := false, tag := "", pkgPath := "trestle/shape", byteOffset := 0 }, { name := "by", type := 148, offset := 11, embedded := false, tag := "", pkgPath := "trestle/shape", byteOffset := 248 }]) 12 (.agg #[(.int .i64 0), (.slice none 0 0), (.slice none 0 0), (.slice none 0 0), (.slice none 0 0), (.slice none 0 0), (.slice none 0 0), (.slice none 0 0), (.slice none 0 0), (.slice none 0 0), (.slice none 0 0), (.slice none 0 0)]) 272 true := ⟨Try.underlying150, by kernel_rfl, fun w => Try.zeroValue150 w, fun w => Try.sizeOf150 w, fun w => Try.isAgg150 w⟩
instance : Ty Try.prog 154 (Go.TypeDesc.slice 5) 1 (.slice none 0 0) 24 false := ⟨Try.underlying154, by kernel_rfl, fun w => Try.zeroValue154 w, fun w => Try.sizeOf154 w, fun w => Try.isAgg154 w⟩
instance : Ty Try.prog 156 (Go.TypeDesc.array 3 45) 3 (.agg #[(.slice none 0 0), (.slice none 0 0), (.slice none 0 0)]) 72 true := ⟨Try.underlying156, by kernel_rfl, fun w => Try.zeroValue156 w, fun w => Try.sizeOf156 w, fun w => Try.isAgg156 w⟩
instance : Ty Try.prog 162 (Go.TypeDesc.struct #[{ name := "c", type := 51, offset := 0, embedded := false, tag := "", pkgPath := "trestle/sim", byteOffset := 0 }, { name := "order", type := 45, offset := 11, embedded := false, tag := "", pkgPath := "trestle/sim", byteOffset := 248 }]) 12 (.agg #[(.int .i64 0), (.slice none 0 0), (.slice none 0 0), (.slice none 0 0), (.slice none 0 0), (.slice none 0 0), (.slice none 0 0), (.slice none 0 0), (.slice none 0 0), (.slice none 0 0), (.slice none 0 0), (.slice none 0 0)]) 272 true := ⟨Try.underlying162, by kernel_rfl, fun w => Try.zeroValue162 w, fun w => Try.sizeOf162 w, fun w => Try.isAgg162 w⟩
instance : Ty Try.prog 163 (Go.TypeDesc.struct #[{ name := "c", type := 51, offset := 0, embedded := false, tag := "", pkgPath := "trestle/sim", byteOffset := 0 }, { name := "order", type := 45, offset := 11, embedded := false, tag := "", pkgPath := "trestle/sim", byteOffset := 248 }]) 12 (.agg #[(.int .i64 0), (.slice none 0 0), (.slice none 0 0), (.slice none 0 0), (.slice none 0 0), (.slice none 0 0), (.slice none 0 0), (.slice none 0 0), (.slice none 0 0), (.slice none 0 0), (.slice none 0 0), (.slice none 0 0)]) 272 true := ⟨Try.underlying163, by kernel_rfl, fun w => Try.zeroValue163 w, fun w => Try.sizeOf163 w, fun w => Try.isAgg163 w⟩
instance : Ty Try.prog 164 (Go.TypeDesc.func #[3, 45] #[] false) 1 .nilFunc 8 false := ⟨Try.underlying164, by kernel_rfl, fun w => Try.zeroValue164 w, fun w => Try.sizeOf164 w, fun w => Try.isAgg164 w⟩
instance : Ty Try.prog 167 (Go.TypeDesc.struct #[{ name := "left", type := 3, offset := 0, embedded := false, tag := "", pkgPath := "trestle/hash", byteOffset := 0 }, { name := "right", type := 3, offset := 1, embedded := false, tag := "", pkgPath := "trestle/hash", byteOffset := 8 }]) 2 (.agg #[(.int .i64 0), (.int .i64 0)]) 16 true := ⟨Try.underlying167, by kernel_rfl, fun w => Try.zeroValue167 w, fun w => Try.sizeOf167 w, fun w => Try.isAgg167 w⟩
instance : Ty Try.prog 168 (Go.TypeDesc.struct #[{ name := "left", type := 3, offset := 0, embedded := false, tag := "", pkgPath := "trestle/hash", byteOffset := 0 }, { name := "right", type := 3, offset := 1, embedded := false, tag := "", pkgPath := "trestle/hash", byteOffset := 8 }]) 2 (.agg #[(.int .i64 0), (.int .i64 0)]) 16 true := ⟨Try.underlying168, by kernel_rfl, fun w => Try.zeroValue168 w, fun w => Try.sizeOf168 w, fun w => Try.isAgg168 w⟩
instance : Ty Try.prog 169 (Go.TypeDesc.array 10 3) 10 (.agg #[(.int .i64 0), (.int .i64 0), (.int .i64 0), (.int .i64 0), (.int .i64 0), (.int .i64 0), (.int .i64 0), (.int .i64 0), (.int .i64 0), (.int .i64 0)]) 80 true := ⟨Try.underlying169, by kernel_rfl, fun w => Try.zeroValue169 w, fun w => Try.sizeOf169 w, fun w => Try.isAgg169 w⟩
instance : Ty Try.prog 172 (Go.TypeDesc.struct #[{ name := "kind", type := 3, offset := 0, embedded := false, tag := "", pkgPath := "trestle/shape", byteOffset := 0 }, { name := "at", type := 3, offset := 1, embedded := false, tag := "", pkgPath := "trestle/shape", byteOffset := 8 }]) 2 (.agg #[(.int .i64 0), (.int .i64 0)]) 16 true := ⟨Try.underlying172, by kernel_rfl, fun w => Try.zeroValue172 w, fun w => Try.sizeOf172 w, fun w => Try.isAgg172 w⟩
instance : Ty Try.prog 173 (Go.TypeDesc.struct #[{ name := "kind", type := 3, offset := 0, embedded := false, tag := "", pkgPath := "trestle/shape", byteOffset := 0 }, { name := "at", type := 3, offset := 1, embedded := false, tag := "", pkgPath := "trestle/shape", byteOffset := 8 }]) 2 (.agg #[(.int .i64 0), (.int .i64 0)]) 16 true := ⟨Try.underlying173, by kernel_rfl, fun w => Try.zeroValue173 w, fun w => Try.sizeOf173 w, fun w => Try.isAgg173 w⟩
instance : Ty Try.prog 174 (Go.TypeDesc.map 177 3) 1 (.map none) 8 false := ⟨Try.underlying174, by kernel_rfl, fun w => Try.zeroValue174 w, fun w => Try.sizeOf174 w, fun w => Try.isAgg174 w⟩
instance : Ty Try.prog 176 (Go.TypeDesc.struct #[{ name := "kind", type := 5, offset := 0, embedded := false, tag := "", pkgPath := "trestle/shape", byteOffset := 0 }, { name := "at", type := 3, offset := 1, embedded := false, tag := "", pkgPath := "trestle/shape", byteOffset := 8 }]) 2 (.agg #[(.int .u8 0), (.int .i64 0)]) 16 true := ⟨Try.underlying176, by kernel_rfl, fun w => Try.zeroValue176 w, fun w => Try.sizeOf176 w, fun w => Try.isAgg176 w⟩
instance : Ty Try.prog 177 (Go.TypeDesc.struct #[{ name := "kind", type := 5, offset := 0, embedded := false, tag := "", pkgPath := "trestle/shape", byteOffset := 0 }, { name := "at", type := 3, offset := 1, embedded := false, tag := "", pkgPath := "trestle/shape", byteOffset := 8 }]) 2 (.agg #[(.int .u8 0), (.int .i64 0)]) 16 true := ⟨Try.underlying177, by kernel_rfl, fun w => Try.zeroValue177 w, fun w => Try.sizeOf177 w, fun w => Try.isAgg177 w⟩
instance : Fld Try.prog 23 0 0 := ⟨⟨_, _, _, Try.underlying23, rfl, rfl, fun w => Try.sizeOf3 w, by decide⟩⟩
instance : Fld Try.prog 23 1 1 := ⟨⟨_, _, _, Try.underlying23, rfl, rfl, fun w => Try.sizeOf3 w, by decide⟩⟩
instance : Fld Try.prog 35 0 0 := ⟨⟨_, _, _, Try.underlying35, rfl, rfl, fun w => Try.sizeOf3 w, by decide⟩⟩
instance : Fld Try.prog 35 1 1 := ⟨⟨_, _, _, Try.underlying35, rfl, rfl, fun w => Try.sizeOf3 w, by decide⟩⟩
instance : Fld Try.prog 35 2 2 := ⟨⟨_, _, _, Try.underlying35, rfl, rfl, fun w => Try.sizeOf3 w, by decide⟩⟩
instance : Fld Try.prog 35 3 3 := ⟨⟨_, _, _, Try.underlying35, rfl, rfl, fun w => Try.sizeOf3 w, by decide⟩⟩
instance : Fld Try.prog 39 0 0 := ⟨⟨_, _, _, Try.underlying39, rfl, rfl, fun w => Try.sizeOf3 w, by decide⟩⟩
instance : Fld Try.prog 39 1 1 := ⟨⟨_, _, _, Try.underlying39, rfl, rfl, fun w => Try.sizeOf3 w, by decide⟩⟩
instance : Fld Try.prog 39 2 2 := ⟨⟨_, _, _, Try.underlying39, rfl, rfl, fun w => Try.sizeOf37 w, by decide⟩⟩
instance : Fld Try.prog 43 0 0 := ⟨⟨_, _, _, Try.underlying43, rfl, rfl, fun w => Try.sizeOf3 w, by decide⟩⟩
instance : Fld Try.prog 43 1 1 := ⟨⟨_, _, _, Try.underlying43, rfl, rfl, fun w => Try.sizeOf3 w, by decide⟩⟩
instance : Fld Try.prog 43 2 2 := ⟨⟨_, _, _, Try.underlying43, rfl, rfl, fun w => Try.sizeOf3 w, by decide⟩⟩
instance : Fld Try.prog 51 0 0 := ⟨⟨_, _, _, Try.underlying51, rfl, rfl, fun w => Try.sizeOf3 w, by decide⟩⟩
instance : Fld Try.prog 51 1 1 := ⟨⟨_, _, _, Try.underlying51, rfl, rfl, fun w => Try.sizeOf45 w, by decide⟩⟩
instance : Fld Try.prog 51 2 2 := ⟨⟨_, _, _, Try.underlying51, rfl, rfl, fun w => Try.sizeOf46 w, by decide⟩⟩
instance : Fld Try.prog 51 3 3 := ⟨⟨_, _, _, Try.underlying51, rfl, rfl, fun w => Try.sizeOf45 w, by decide⟩⟩
instance : Fld Try.prog 51 4 4 := ⟨⟨_, _, _, Try.underlying51, rfl, rfl, fun w => Try.sizeOf45 w, by decide⟩⟩
instance : Fld Try.prog 51 5 5 := ⟨⟨_, _, _, Try.underlying51, rfl, rfl, fun w => Try.sizeOf45 w, by decide⟩⟩
instance : Fld Try.prog 51 6 6 := ⟨⟨_, _, _, Try.underlying51, rfl, rfl, fun w => Try.sizeOf47 w, by decide⟩⟩
instance : Fld Try.prog 51 7 7 := ⟨⟨_, _, _, Try.underlying51, rfl, rfl, fun w => Try.sizeOf45 w, by decide⟩⟩
instance : Fld Try.prog 51 8 8 := ⟨⟨_, _, _, Try.underlying51, rfl, rfl, fun w => Try.sizeOf37 w, by decide⟩⟩
instance : Fld Try.prog 51 9 9 := ⟨⟨_, _, _, Try.underlying51, rfl, rfl, fun w => Try.sizeOf48 w, by decide⟩⟩
instance : Fld Try.prog 51 10 10 := ⟨⟨_, _, _, Try.underlying51, rfl, rfl, fun w => Try.sizeOf49 w, by decide⟩⟩
instance : Fld Try.prog 70 0 0 := ⟨⟨_, _, _, Try.underlying70, rfl, rfl, fun w => Try.sizeOf3 w, by decide⟩⟩
instance : Fld Try.prog 70 1 1 := ⟨⟨_, _, _, Try.underlying70, rfl, rfl, fun w => Try.sizeOf3 w, by decide⟩⟩
instance : Fld Try.prog 70 2 2 := ⟨⟨_, _, _, Try.underlying70, rfl, rfl, fun w => Try.sizeOf3 w, by decide⟩⟩
instance : Fld Try.prog 73 0 0 := ⟨⟨_, _, _, Try.underlying73, rfl, rfl, fun w => Try.sizeOf62 w, by decide⟩⟩
instance : Fld Try.prog 73 1 1 := ⟨⟨_, _, _, Try.underlying73, rfl, rfl, fun w => Try.sizeOf71 w, by decide⟩⟩
instance : Fld Try.prog 73 2 2 := ⟨⟨_, _, _, Try.underlying73, rfl, rfl, fun w => Try.sizeOf3 w, by decide⟩⟩
instance : Fld Try.prog 82 0 0 := ⟨⟨_, _, _, Try.underlying82, rfl, rfl, fun w => Try.sizeOf62 w, by decide⟩⟩
instance : Fld Try.prog 82 1 1 := ⟨⟨_, _, _, Try.underlying82, rfl, rfl, fun w => Try.sizeOf4 w, by decide⟩⟩
instance : Fld Try.prog 82 2 2 := ⟨⟨_, _, _, Try.underlying82, rfl, rfl, fun w => Try.sizeOf45 w, by decide⟩⟩
instance : Fld Try.prog 82 3 3 := ⟨⟨_, _, _, Try.underlying82, rfl, rfl, fun w => Try.sizeOf80 w, by decide⟩⟩
instance : Fld Try.prog 98 0 0 := ⟨⟨_, _, _, Try.underlying98, rfl, rfl, fun w => Try.sizeOf3 w, by decide⟩⟩
instance : Fld Try.prog 98 1 1 := ⟨⟨_, _, _, Try.underlying98, rfl, rfl, fun w => Try.sizeOf3 w, by decide⟩⟩
instance : Fld Try.prog 98 2 2 := ⟨⟨_, _, _, Try.underlying98, rfl, rfl, fun w => Try.sizeOf37 w, by decide⟩⟩
instance : Fld Try.prog 98 3 3 := ⟨⟨_, _, _, Try.underlying98, rfl, rfl, fun w => Try.sizeOf96 w, by decide⟩⟩
instance : Fld Try.prog 117 0 0 := ⟨⟨_, _, _, Try.underlying117, rfl, rfl, fun w => Try.sizeOf5 w, by decide⟩⟩
instance : Fld Try.prog 117 1 1 := ⟨⟨_, _, _, Try.underlying117, rfl, rfl, fun w => Try.sizeOf3 w, by decide⟩⟩
instance : Fld Try.prog 117 2 2 := ⟨⟨_, _, _, Try.underlying117, rfl, rfl, fun w => Try.sizeOf9 w, by decide⟩⟩
instance : Fld Try.prog 150 0 0 := ⟨⟨_, _, _, Try.underlying150, rfl, rfl, fun w => Try.sizeOf51 w, by decide⟩⟩
instance : Fld Try.prog 150 1 11 := ⟨⟨_, _, _, Try.underlying150, rfl, rfl, fun w => Try.sizeOf148 w, by decide⟩⟩
instance : Fld Try.prog 163 0 0 := ⟨⟨_, _, _, Try.underlying163, rfl, rfl, fun w => Try.sizeOf51 w, by decide⟩⟩
instance : Fld Try.prog 163 1 11 := ⟨⟨_, _, _, Try.underlying163, rfl, rfl, fun w => Try.sizeOf45 w, by decide⟩⟩
instance : Fld Try.prog 168 0 0 := ⟨⟨_, _, _, Try.underlying168, rfl, rfl, fun w => Try.sizeOf3 w, by decide⟩⟩
instance : Fld Try.prog 168 1 1 := ⟨⟨_, _, _, Try.underlying168, rfl, rfl, fun w => Try.sizeOf3 w, by decide⟩⟩
instance : Fld Try.prog 173 0 0 := ⟨⟨_, _, _, Try.underlying173, rfl, rfl, fun w => Try.sizeOf3 w, by decide⟩⟩
instance : Fld Try.prog 173 1 1 := ⟨⟨_, _, _, Try.underlying173, rfl, rfl, fun w => Try.sizeOf3 w, by decide⟩⟩
theorem build98_0_1_3 {e : Env} {ty : TypeId} {x0 x1 x2 : Operand} {v0 v1 v2 : Value} (h0 : ev e x0 = some (v0)) (h1 : ev e x1 = some (v1)) (h2 : ev e x2 = some (v2)) (c0 : v0.cells = #[v0] := by rfl) (c1 : v1.cells = #[v1] := by rfl) (c2 : v2.cells = #[v2] := by rfl) : Pure Try.prog (.build 98 #[(0, x0), (1, x1), (3, x2)]) ty e (.agg #[v0, v1, (.slice none 0 0), v2]) := by
  intro w ρ dst pos af g hρ
  have hr : ∀ w, (Instr.build 98 #[(0, v0), (1, v1), (3, v2)]).run Try.prog w = .ok (.agg #[v0, v1, (.slice none 0 0), v2]) w := by
    intro w
    have hb : Try.prog.built 98 [(0, v0), (1, v1), (3, v2)] = some #[v0, v1, (.slice none 0 0), v2] := by
      have hz : Try.prog.info? 98 = some Try.t98 := by kernel_rfl
      simp [Program.built, hz, Try.t98, Try.underlying98, (show Try.prog.info? 3 = some Try.t3 by kernel_rfl), Try.t3, (show Try.prog.info? 37 = some Try.t37 by kernel_rfl), Try.t37, (show Try.prog.info? 96 = some Try.t96 by kernel_rfl), Try.t96, Instr.fill, agg_cells, c0, c1, c2]
    exact run_build w 98 #[(0, v0), (1, v1), (3, v2)] #[v0, v1, (.slice none 0 0), v2] hb
  simp [execOp, hr, hρ _ _ h0, hρ _ _ h1, hρ _ _ h2]
theorem build39_0_1 {e : Env} {ty : TypeId} {x0 x1 : Operand} {v0 v1 : Value} (h0 : ev e x0 = some (v0)) (h1 : ev e x1 = some (v1)) (c0 : v0.cells = #[v0] := by rfl) (c1 : v1.cells = #[v1] := by rfl) : Pure Try.prog (.build 39 #[(0, x0), (1, x1)]) ty e (.agg #[v0, v1, (.slice none 0 0)]) := by
  intro w ρ dst pos af g hρ
  have hr : ∀ w, (Instr.build 39 #[(0, v0), (1, v1)]).run Try.prog w = .ok (.agg #[v0, v1, (.slice none 0 0)]) w := by
    intro w
    have hb : Try.prog.built 39 [(0, v0), (1, v1)] = some #[v0, v1, (.slice none 0 0)] := by
      have hz : Try.prog.info? 39 = some Try.t39 := by kernel_rfl
      simp [Program.built, hz, Try.t39, Try.underlying39, (show Try.prog.info? 3 = some Try.t3 by kernel_rfl), Try.t3, (show Try.prog.info? 37 = some Try.t37 by kernel_rfl), Try.t37, Instr.fill, agg_cells, c0, c1]
    exact run_build w 39 #[(0, v0), (1, v1)] #[v0, v1, (.slice none 0 0)] hb
  simp [execOp, hr, hρ _ _ h0, hρ _ _ h1]
theorem build168_0_1 {e : Env} {ty : TypeId} {x0 x1 : Operand} {v0 v1 : Value} (h0 : ev e x0 = some (v0)) (h1 : ev e x1 = some (v1)) (c0 : v0.cells = #[v0] := by rfl) (c1 : v1.cells = #[v1] := by rfl) : Pure Try.prog (.build 168 #[(0, x0), (1, x1)]) ty e (.agg #[v0, v1]) := by
  intro w ρ dst pos af g hρ
  have hr : ∀ w, (Instr.build 168 #[(0, v0), (1, v1)]).run Try.prog w = .ok (.agg #[v0, v1]) w := by
    intro w
    have hb : Try.prog.built 168 [(0, v0), (1, v1)] = some #[v0, v1] := by
      have hz : Try.prog.info? 168 = some Try.t168 := by kernel_rfl
      simp [Program.built, hz, Try.t168, Try.underlying168, (show Try.prog.info? 3 = some Try.t3 by kernel_rfl), Try.t3, Instr.fill, agg_cells, c0, c1]
    exact run_build w 168 #[(0, v0), (1, v1)] #[v0, v1] hb
  simp [execOp, hr, hρ _ _ h0, hρ _ _ h1]
theorem build168_ {e : Env} {ty : TypeId} : Pure Try.prog (.build 168 #[]) ty e (.agg #[(.int .i64 0), (.int .i64 0)]) := by
  intro w ρ dst pos af g hρ
  have hr : ∀ w, (Instr.build 168 #[]).run Try.prog w = .ok (.agg #[(.int .i64 0), (.int .i64 0)]) w := by
    intro w
    have hb : Try.prog.built 168 [] = some #[(.int .i64 0), (.int .i64 0)] := by
      have hz : Try.prog.info? 168 = some Try.t168 := by kernel_rfl
      simp [Program.built, hz, Try.t168, Try.underlying168, (show Try.prog.info? 3 = some Try.t3 by kernel_rfl), Try.t3, Instr.fill, agg_cells]
    exact run_build w 168 #[] #[(.int .i64 0), (.int .i64 0)] hb
  simp [execOp, hr]
theorem build43_0_1_2 {e : Env} {ty : TypeId} {x0 x1 x2 : Operand} {v0 v1 v2 : Value} (h0 : ev e x0 = some (v0)) (h1 : ev e x1 = some (v1)) (h2 : ev e x2 = some (v2)) (c0 : v0.cells = #[v0] := by rfl) (c1 : v1.cells = #[v1] := by rfl) (c2 : v2.cells = #[v2] := by rfl) : Pure Try.prog (.build 43 #[(0, x0), (1, x1), (2, x2)]) ty e (.agg #[v0, v1, v2]) := by
  intro w ρ dst pos af g hρ
  have hr : ∀ w, (Instr.build 43 #[(0, v0), (1, v1), (2, v2)]).run Try.prog w = .ok (.agg #[v0, v1, v2]) w := by
    intro w
    have hb : Try.prog.built 43 [(0, v0), (1, v1), (2, v2)] = some #[v0, v1, v2] := by
      have hz : Try.prog.info? 43 = some Try.t43 := by kernel_rfl
      simp [Program.built, hz, Try.t43, Try.underlying43, (show Try.prog.info? 3 = some Try.t3 by kernel_rfl), Try.t3, Instr.fill, agg_cells, c0, c1, c2]
    exact run_build w 43 #[(0, v0), (1, v1), (2, v2)] #[v0, v1, v2] hb
  simp [execOp, hr, hρ _ _ h0, hρ _ _ h1, hρ _ _ h2]
theorem build43_0 {e : Env} {ty : TypeId} {x0 : Operand} {v0 : Value} (h0 : ev e x0 = some (v0)) (c0 : v0.cells = #[v0] := by rfl) : Pure Try.prog (.build 43 #[(0, x0)]) ty e (.agg #[v0, (.int .i64 0), (.int .i64 0)]) := by
  intro w ρ dst pos af g hρ
  have hr : ∀ w, (Instr.build 43 #[(0, v0)]).run Try.prog w = .ok (.agg #[v0, (.int .i64 0), (.int .i64 0)]) w := by
    intro w
    have hb : Try.prog.built 43 [(0, v0)] = some #[v0, (.int .i64 0), (.int .i64 0)] := by
      have hz : Try.prog.info? 43 = some Try.t43 := by kernel_rfl
      simp [Program.built, hz, Try.t43, Try.underlying43, (show Try.prog.info? 3 = some Try.t3 by kernel_rfl), Try.t3, Instr.fill, agg_cells, c0]
    exact run_build w 43 #[(0, v0)] #[v0, (.int .i64 0), (.int .i64 0)] hb
  simp [execOp, hr, hρ _ _ h0]
theorem build51_0_1_2_3_4_5_6_7_8_9_10 {e : Env} {ty : TypeId} {x0 x1 x2 x3 x4 x5 x6 x7 x8 x9 x10 : Operand} {v0 v1 v2 v3 v4 v5 v6 v7 v8 v9 v10 : Value} (h0 : ev e x0 = some (v0)) (h1 : ev e x1 = some (v1)) (h2 : ev e x2 = some (v2)) (h3 : ev e x3 = some (v3)) (h4 : ev e x4 = some (v4)) (h5 : ev e x5 = some (v5)) (h6 : ev e x6 = some (v6)) (h7 : ev e x7 = some (v7)) (h8 : ev e x8 = some (v8)) (h9 : ev e x9 = some (v9)) (h10 : ev e x10 = some (v10)) (c0 : v0.cells = #[v0] := by rfl) (c1 : v1.cells = #[v1] := by rfl) (c2 : v2.cells = #[v2] := by rfl) (c3 : v3.cells = #[v3] := by rfl) (c4 : v4.cells = #[v4] := by rfl) (c5 : v5.cells = #[v5] := by rfl) (c6 : v6.cells = #[v6] := by rfl) (c7 : v7.cells = #[v7] := by rfl) (c8 : v8.cells = #[v8] := by rfl) (c9 : v9.cells = #[v9] := by rfl) (c10 : v10.cells = #[v10] := by rfl) : Pure Try.prog (.build 51 #[(0, x0), (1, x1), (2, x2), (3, x3), (4, x4), (5, x5), (6, x6), (7, x7), (8, x8), (9, x9), (10, x10)]) ty e (.agg #[v0, v1, v2, v3, v4, v5, v6, v7, v8, v9, v10]) := by
  intro w ρ dst pos af g hρ
  have hr : ∀ w, (Instr.build 51 #[(0, v0), (1, v1), (2, v2), (3, v3), (4, v4), (5, v5), (6, v6), (7, v7), (8, v8), (9, v9), (10, v10)]).run Try.prog w = .ok (.agg #[v0, v1, v2, v3, v4, v5, v6, v7, v8, v9, v10]) w := by
    intro w
    have hb : Try.prog.built 51 [(0, v0), (1, v1), (2, v2), (3, v3), (4, v4), (5, v5), (6, v6), (7, v7), (8, v8), (9, v9), (10, v10)] = some #[v0, v1, v2, v3, v4, v5, v6, v7, v8, v9, v10] := by
      have hz : Try.prog.info? 51 = some Try.t51 := by kernel_rfl
      simp [Program.built, hz, Try.t51, Try.underlying51, (show Try.prog.info? 3 = some Try.t3 by kernel_rfl), Try.t3, (show Try.prog.info? 37 = some Try.t37 by kernel_rfl), Try.t37, (show Try.prog.info? 45 = some Try.t45 by kernel_rfl), Try.t45, (show Try.prog.info? 46 = some Try.t46 by kernel_rfl), Try.t46, (show Try.prog.info? 47 = some Try.t47 by kernel_rfl), Try.t47, (show Try.prog.info? 48 = some Try.t48 by kernel_rfl), Try.t48, (show Try.prog.info? 49 = some Try.t49 by kernel_rfl), Try.t49, Instr.fill, agg_cells, c0, c1, c2, c3, c4, c5, c6, c7, c8, c9, c10]
    exact run_build w 51 #[(0, v0), (1, v1), (2, v2), (3, v3), (4, v4), (5, v5), (6, v6), (7, v7), (8, v8), (9, v9), (10, v10)] #[v0, v1, v2, v3, v4, v5, v6, v7, v8, v9, v10] hb
  simp [execOp, hr, hρ _ _ h0, hρ _ _ h1, hρ _ _ h2, hρ _ _ h3, hρ _ _ h4, hρ _ _ h5, hρ _ _ h6, hρ _ _ h7, hρ _ _ h8, hρ _ _ h9, hρ _ _ h10]
theorem build70_0 {e : Env} {ty : TypeId} {x0 : Operand} {v0 : Value} (h0 : ev e x0 = some (v0)) (c0 : v0.cells = #[v0] := by rfl) : Pure Try.prog (.build 70 #[(0, x0)]) ty e (.agg #[v0, (.int .i64 0), (.int .i64 0)]) := by
  intro w ρ dst pos af g hρ
  have hr : ∀ w, (Instr.build 70 #[(0, v0)]).run Try.prog w = .ok (.agg #[v0, (.int .i64 0), (.int .i64 0)]) w := by
    intro w
    have hb : Try.prog.built 70 [(0, v0)] = some #[v0, (.int .i64 0), (.int .i64 0)] := by
      have hz : Try.prog.info? 70 = some Try.t70 := by kernel_rfl
      simp [Program.built, hz, Try.t70, Try.underlying70, (show Try.prog.info? 3 = some Try.t3 by kernel_rfl), Try.t3, Instr.fill, agg_cells, c0]
    exact run_build w 70 #[(0, v0)] #[v0, (.int .i64 0), (.int .i64 0)] hb
  simp [execOp, hr, hρ _ _ h0]
theorem build169_0_1_2_3_4_5_6_7_8_9 {e : Env} {ty : TypeId} {x0 x1 x2 x3 x4 x5 x6 x7 x8 x9 : Operand} {v0 v1 v2 v3 v4 v5 v6 v7 v8 v9 : Value} (h0 : ev e x0 = some (v0)) (h1 : ev e x1 = some (v1)) (h2 : ev e x2 = some (v2)) (h3 : ev e x3 = some (v3)) (h4 : ev e x4 = some (v4)) (h5 : ev e x5 = some (v5)) (h6 : ev e x6 = some (v6)) (h7 : ev e x7 = some (v7)) (h8 : ev e x8 = some (v8)) (h9 : ev e x9 = some (v9)) (c0 : v0.cells = #[v0] := by rfl) (c1 : v1.cells = #[v1] := by rfl) (c2 : v2.cells = #[v2] := by rfl) (c3 : v3.cells = #[v3] := by rfl) (c4 : v4.cells = #[v4] := by rfl) (c5 : v5.cells = #[v5] := by rfl) (c6 : v6.cells = #[v6] := by rfl) (c7 : v7.cells = #[v7] := by rfl) (c8 : v8.cells = #[v8] := by rfl) (c9 : v9.cells = #[v9] := by rfl) : Pure Try.prog (.build 169 #[(0, x0), (1, x1), (2, x2), (3, x3), (4, x4), (5, x5), (6, x6), (7, x7), (8, x8), (9, x9)]) ty e (.agg #[v0, v1, v2, v3, v4, v5, v6, v7, v8, v9]) := by
  intro w ρ dst pos af g hρ
  have hr : ∀ w, (Instr.build 169 #[(0, v0), (1, v1), (2, v2), (3, v3), (4, v4), (5, v5), (6, v6), (7, v7), (8, v8), (9, v9)]).run Try.prog w = .ok (.agg #[v0, v1, v2, v3, v4, v5, v6, v7, v8, v9]) w := by
    intro w
    have hb : Try.prog.built 169 [(0, v0), (1, v1), (2, v2), (3, v3), (4, v4), (5, v5), (6, v6), (7, v7), (8, v8), (9, v9)] = some #[v0, v1, v2, v3, v4, v5, v6, v7, v8, v9] := by
      have hz : Try.prog.info? 169 = some Try.t169 := by kernel_rfl
      simp [Program.built, hz, Try.t169, Try.underlying169, (show Try.prog.info? 3 = some Try.t3 by kernel_rfl), Try.t3, Instr.fill, agg_cells, c0, c1, c2, c3, c4, c5, c6, c7, c8, c9]
    exact run_build w 169 #[(0, v0), (1, v1), (2, v2), (3, v3), (4, v4), (5, v5), (6, v6), (7, v7), (8, v8), (9, v9)] #[v0, v1, v2, v3, v4, v5, v6, v7, v8, v9] hb
  simp [execOp, hr, hρ _ _ h0, hρ _ _ h1, hρ _ _ h2, hρ _ _ h3, hρ _ _ h4, hρ _ _ h5, hρ _ _ h6, hρ _ _ h7, hρ _ _ h8, hρ _ _ h9]
theorem build173_0_1 {e : Env} {ty : TypeId} {x0 x1 : Operand} {v0 v1 : Value} (h0 : ev e x0 = some (v0)) (h1 : ev e x1 = some (v1)) (c0 : v0.cells = #[v0] := by rfl) (c1 : v1.cells = #[v1] := by rfl) : Pure Try.prog (.build 173 #[(0, x0), (1, x1)]) ty e (.agg #[v0, v1]) := by
  intro w ρ dst pos af g hρ
  have hr : ∀ w, (Instr.build 173 #[(0, v0), (1, v1)]).run Try.prog w = .ok (.agg #[v0, v1]) w := by
    intro w
    have hb : Try.prog.built 173 [(0, v0), (1, v1)] = some #[v0, v1] := by
      have hz : Try.prog.info? 173 = some Try.t173 := by kernel_rfl
      simp [Program.built, hz, Try.t173, Try.underlying173, (show Try.prog.info? 3 = some Try.t3 by kernel_rfl), Try.t3, Instr.fill, agg_cells, c0, c1]
    exact run_build w 173 #[(0, v0), (1, v1)] #[v0, v1] hb
  simp [execOp, hr, hρ _ _ h0, hρ _ _ h1]
theorem build63_0_1 {e : Env} {ty : TypeId} {x0 x1 : Operand} {v0 v1 : Value} (h0 : ev e x0 = some (v0)) (h1 : ev e x1 = some (v1)) (c0 : v0.cells = #[v0] := by rfl) (c1 : v1.cells = #[v1] := by rfl) : Pure Try.prog (.build 63 #[(0, x0), (1, x1)]) ty e (.agg #[v0, v1]) := by
  intro w ρ dst pos af g hρ
  have hr : ∀ w, (Instr.build 63 #[(0, v0), (1, v1)]).run Try.prog w = .ok (.agg #[v0, v1]) w := by
    intro w
    have hb : Try.prog.built 63 [(0, v0), (1, v1)] = some #[v0, v1] := by
      have hz : Try.prog.info? 63 = some Try.t63 := by kernel_rfl
      simp [Program.built, hz, Try.t63, Try.underlying63, (show Try.prog.info? 3 = some Try.t3 by kernel_rfl), Try.t3, Instr.fill, agg_cells, c0, c1]
    exact run_build w 63 #[(0, v0), (1, v1)] #[v0, v1] hb
  simp [execOp, hr, hρ _ _ h0, hρ _ _ h1]
theorem build177_0_1 {e : Env} {ty : TypeId} {x0 x1 : Operand} {v0 v1 : Value} (h0 : ev e x0 = some (v0)) (h1 : ev e x1 = some (v1)) (c0 : v0.cells = #[v0] := by rfl) (c1 : v1.cells = #[v1] := by rfl) : Pure Try.prog (.build 177 #[(0, x0), (1, x1)]) ty e (.agg #[v0, v1]) := by
  intro w ρ dst pos af g hρ
  have hr : ∀ w, (Instr.build 177 #[(0, v0), (1, v1)]).run Try.prog w = .ok (.agg #[v0, v1]) w := by
    intro w
    have hb : Try.prog.built 177 [(0, v0), (1, v1)] = some #[v0, v1] := by
      have hz : Try.prog.info? 177 = some Try.t177 := by kernel_rfl
      simp [Program.built, hz, Try.t177, Try.underlying177, (show Try.prog.info? 3 = some Try.t3 by kernel_rfl), Try.t3, (show Try.prog.info? 5 = some Try.t5 by kernel_rfl), Try.t5, Instr.fill, agg_cells, c0, c1]
    exact run_build w 177 #[(0, v0), (1, v1)] #[v0, v1] hb
  simp [execOp, hr, hρ _ _ h0, hρ _ _ h1]
theorem build150_0_1 {e : Env} {ty : TypeId} {x0 x1 : Operand} {v0_0 v0_1 v0_2 v0_3 v0_4 v0_5 v0_6 v0_7 v0_8 v0_9 v0_10 v1 : Value} (h0 : ev e x0 = some (.agg #[v0_0, v0_1, v0_2, v0_3, v0_4, v0_5, v0_6, v0_7, v0_8, v0_9, v0_10])) (h1 : ev e x1 = some (v1)) (c1 : v1.cells = #[v1] := by rfl) : Pure Try.prog (.build 150 #[(0, x0), (1, x1)]) ty e (.agg #[v0_0, v0_1, v0_2, v0_3, v0_4, v0_5, v0_6, v0_7, v0_8, v0_9, v0_10, v1]) := by
  intro w ρ dst pos af g hρ
  have hr : ∀ w, (Instr.build 150 #[(0, .agg #[v0_0, v0_1, v0_2, v0_3, v0_4, v0_5, v0_6, v0_7, v0_8, v0_9, v0_10]), (1, v1)]).run Try.prog w = .ok (.agg #[v0_0, v0_1, v0_2, v0_3, v0_4, v0_5, v0_6, v0_7, v0_8, v0_9, v0_10, v1]) w := by
    intro w
    have hb : Try.prog.built 150 [(0, .agg #[v0_0, v0_1, v0_2, v0_3, v0_4, v0_5, v0_6, v0_7, v0_8, v0_9, v0_10]), (1, v1)] = some #[v0_0, v0_1, v0_2, v0_3, v0_4, v0_5, v0_6, v0_7, v0_8, v0_9, v0_10, v1] := by
      have hz : Try.prog.info? 150 = some Try.t150 := by kernel_rfl
      simp [Program.built, hz, Try.t150, Try.underlying150, (show Try.prog.info? 148 = some Try.t148 by kernel_rfl), Try.t148, (show Try.prog.info? 51 = some Try.t51 by kernel_rfl), Try.t51, Instr.fill, agg_cells, c1]
    exact run_build w 150 #[(0, .agg #[v0_0, v0_1, v0_2, v0_3, v0_4, v0_5, v0_6, v0_7, v0_8, v0_9, v0_10]), (1, v1)] #[v0_0, v0_1, v0_2, v0_3, v0_4, v0_5, v0_6, v0_7, v0_8, v0_9, v0_10, v1] hb
  simp [execOp, hr, hρ _ _ h0, hρ _ _ h1]
theorem build156_0_1_2 {e : Env} {ty : TypeId} {x0 x1 x2 : Operand} {v0 v1 v2 : Value} (h0 : ev e x0 = some (v0)) (h1 : ev e x1 = some (v1)) (h2 : ev e x2 = some (v2)) (c0 : v0.cells = #[v0] := by rfl) (c1 : v1.cells = #[v1] := by rfl) (c2 : v2.cells = #[v2] := by rfl) : Pure Try.prog (.build 156 #[(0, x0), (1, x1), (2, x2)]) ty e (.agg #[v0, v1, v2]) := by
  intro w ρ dst pos af g hρ
  have hr : ∀ w, (Instr.build 156 #[(0, v0), (1, v1), (2, v2)]).run Try.prog w = .ok (.agg #[v0, v1, v2]) w := by
    intro w
    have hb : Try.prog.built 156 [(0, v0), (1, v1), (2, v2)] = some #[v0, v1, v2] := by
      have hz : Try.prog.info? 156 = some Try.t156 := by kernel_rfl
      simp [Program.built, hz, Try.t156, Try.underlying156, (show Try.prog.info? 45 = some Try.t45 by kernel_rfl), Try.t45, Instr.fill, agg_cells, c0, c1, c2]
    exact run_build w 156 #[(0, v0), (1, v1), (2, v2)] #[v0, v1, v2] hb
  simp [execOp, hr, hρ _ _ h0, hρ _ _ h1, hρ _ _ h2]
theorem build51_ {e : Env} {ty : TypeId} : Pure Try.prog (.build 51 #[]) ty e (.agg #[(.int .i64 0), (.slice none 0 0), (.slice none 0 0), (.slice none 0 0), (.slice none 0 0), (.slice none 0 0), (.slice none 0 0), (.slice none 0 0), (.slice none 0 0), (.slice none 0 0), (.slice none 0 0)]) := by
  intro w ρ dst pos af g hρ
  have hr : ∀ w, (Instr.build 51 #[]).run Try.prog w = .ok (.agg #[(.int .i64 0), (.slice none 0 0), (.slice none 0 0), (.slice none 0 0), (.slice none 0 0), (.slice none 0 0), (.slice none 0 0), (.slice none 0 0), (.slice none 0 0), (.slice none 0 0), (.slice none 0 0)]) w := by
    intro w
    have hb : Try.prog.built 51 [] = some #[(.int .i64 0), (.slice none 0 0), (.slice none 0 0), (.slice none 0 0), (.slice none 0 0), (.slice none 0 0), (.slice none 0 0), (.slice none 0 0), (.slice none 0 0), (.slice none 0 0), (.slice none 0 0)] := by
      have hz : Try.prog.info? 51 = some Try.t51 := by kernel_rfl
      simp [Program.built, hz, Try.t51, Try.underlying51, (show Try.prog.info? 3 = some Try.t3 by kernel_rfl), Try.t3, (show Try.prog.info? 37 = some Try.t37 by kernel_rfl), Try.t37, (show Try.prog.info? 45 = some Try.t45 by kernel_rfl), Try.t45, (show Try.prog.info? 46 = some Try.t46 by kernel_rfl), Try.t46, (show Try.prog.info? 47 = some Try.t47 by kernel_rfl), Try.t47, (show Try.prog.info? 48 = some Try.t48 by kernel_rfl), Try.t48, (show Try.prog.info? 49 = some Try.t49 by kernel_rfl), Try.t49, Instr.fill, agg_cells]
    exact run_build w 51 #[] #[(.int .i64 0), (.slice none 0 0), (.slice none 0 0), (.slice none 0 0), (.slice none 0 0), (.slice none 0 0), (.slice none 0 0), (.slice none 0 0), (.slice none 0 0), (.slice none 0 0), (.slice none 0 0)] hb
  simp [execOp, hr]
theorem build70_0_1_2 {e : Env} {ty : TypeId} {x0 x1 x2 : Operand} {v0 v1 v2 : Value} (h0 : ev e x0 = some (v0)) (h1 : ev e x1 = some (v1)) (h2 : ev e x2 = some (v2)) (c0 : v0.cells = #[v0] := by rfl) (c1 : v1.cells = #[v1] := by rfl) (c2 : v2.cells = #[v2] := by rfl) : Pure Try.prog (.build 70 #[(0, x0), (1, x1), (2, x2)]) ty e (.agg #[v0, v1, v2]) := by
  intro w ρ dst pos af g hρ
  have hr : ∀ w, (Instr.build 70 #[(0, v0), (1, v1), (2, v2)]).run Try.prog w = .ok (.agg #[v0, v1, v2]) w := by
    intro w
    have hb : Try.prog.built 70 [(0, v0), (1, v1), (2, v2)] = some #[v0, v1, v2] := by
      have hz : Try.prog.info? 70 = some Try.t70 := by kernel_rfl
      simp [Program.built, hz, Try.t70, Try.underlying70, (show Try.prog.info? 3 = some Try.t3 by kernel_rfl), Try.t3, Instr.fill, agg_cells, c0, c1, c2]
    exact run_build w 70 #[(0, v0), (1, v1), (2, v2)] #[v0, v1, v2] hb
  simp [execOp, hr, hρ _ _ h0, hρ _ _ h1, hρ _ _ h2]
theorem build51_0_1_8 {e : Env} {ty : TypeId} {x0 x1 x2 : Operand} {v0 v1 v2 : Value} (h0 : ev e x0 = some (v0)) (h1 : ev e x1 = some (v1)) (h2 : ev e x2 = some (v2)) (c0 : v0.cells = #[v0] := by rfl) (c1 : v1.cells = #[v1] := by rfl) (c2 : v2.cells = #[v2] := by rfl) : Pure Try.prog (.build 51 #[(0, x0), (1, x1), (8, x2)]) ty e (.agg #[v0, v1, (.slice none 0 0), (.slice none 0 0), (.slice none 0 0), (.slice none 0 0), (.slice none 0 0), (.slice none 0 0), v2, (.slice none 0 0), (.slice none 0 0)]) := by
  intro w ρ dst pos af g hρ
  have hr : ∀ w, (Instr.build 51 #[(0, v0), (1, v1), (8, v2)]).run Try.prog w = .ok (.agg #[v0, v1, (.slice none 0 0), (.slice none 0 0), (.slice none 0 0), (.slice none 0 0), (.slice none 0 0), (.slice none 0 0), v2, (.slice none 0 0), (.slice none 0 0)]) w := by
    intro w
    have hb : Try.prog.built 51 [(0, v0), (1, v1), (8, v2)] = some #[v0, v1, (.slice none 0 0), (.slice none 0 0), (.slice none 0 0), (.slice none 0 0), (.slice none 0 0), (.slice none 0 0), v2, (.slice none 0 0), (.slice none 0 0)] := by
      have hz : Try.prog.info? 51 = some Try.t51 := by kernel_rfl
      simp [Program.built, hz, Try.t51, Try.underlying51, (show Try.prog.info? 3 = some Try.t3 by kernel_rfl), Try.t3, (show Try.prog.info? 37 = some Try.t37 by kernel_rfl), Try.t37, (show Try.prog.info? 45 = some Try.t45 by kernel_rfl), Try.t45, (show Try.prog.info? 46 = some Try.t46 by kernel_rfl), Try.t46, (show Try.prog.info? 47 = some Try.t47 by kernel_rfl), Try.t47, (show Try.prog.info? 48 = some Try.t48 by kernel_rfl), Try.t48, (show Try.prog.info? 49 = some Try.t49 by kernel_rfl), Try.t49, Instr.fill, agg_cells, c0, c1, c2]
    exact run_build w 51 #[(0, v0), (1, v1), (8, v2)] #[v0, v1, (.slice none 0 0), (.slice none 0 0), (.slice none 0 0), (.slice none 0 0), (.slice none 0 0), (.slice none 0 0), v2, (.slice none 0 0), (.slice none 0 0)] hb
  simp [execOp, hr, hρ _ _ h0, hρ _ _ h1, hρ _ _ h2]
theorem build51_0_1 {e : Env} {ty : TypeId} {x0 x1 : Operand} {v0 v1 : Value} (h0 : ev e x0 = some (v0)) (h1 : ev e x1 = some (v1)) (c0 : v0.cells = #[v0] := by rfl) (c1 : v1.cells = #[v1] := by rfl) : Pure Try.prog (.build 51 #[(0, x0), (1, x1)]) ty e (.agg #[v0, v1, (.slice none 0 0), (.slice none 0 0), (.slice none 0 0), (.slice none 0 0), (.slice none 0 0), (.slice none 0 0), (.slice none 0 0), (.slice none 0 0), (.slice none 0 0)]) := by
  intro w ρ dst pos af g hρ
  have hr : ∀ w, (Instr.build 51 #[(0, v0), (1, v1)]).run Try.prog w = .ok (.agg #[v0, v1, (.slice none 0 0), (.slice none 0 0), (.slice none 0 0), (.slice none 0 0), (.slice none 0 0), (.slice none 0 0), (.slice none 0 0), (.slice none 0 0), (.slice none 0 0)]) w := by
    intro w
    have hb : Try.prog.built 51 [(0, v0), (1, v1)] = some #[v0, v1, (.slice none 0 0), (.slice none 0 0), (.slice none 0 0), (.slice none 0 0), (.slice none 0 0), (.slice none 0 0), (.slice none 0 0), (.slice none 0 0), (.slice none 0 0)] := by
      have hz : Try.prog.info? 51 = some Try.t51 := by kernel_rfl
      simp [Program.built, hz, Try.t51, Try.underlying51, (show Try.prog.info? 3 = some Try.t3 by kernel_rfl), Try.t3, (show Try.prog.info? 37 = some Try.t37 by kernel_rfl), Try.t37, (show Try.prog.info? 45 = some Try.t45 by kernel_rfl), Try.t45, (show Try.prog.info? 46 = some Try.t46 by kernel_rfl), Try.t46, (show Try.prog.info? 47 = some Try.t47 by kernel_rfl), Try.t47, (show Try.prog.info? 48 = some Try.t48 by kernel_rfl), Try.t48, (show Try.prog.info? 49 = some Try.t49 by kernel_rfl), Try.t49, Instr.fill, agg_cells, c0, c1]
    exact run_build w 51 #[(0, v0), (1, v1)] #[v0, v1, (.slice none 0 0), (.slice none 0 0), (.slice none 0 0), (.slice none 0 0), (.slice none 0 0), (.slice none 0 0), (.slice none 0 0), (.slice none 0 0), (.slice none 0 0)] hb
  simp [execOp, hr, hρ _ _ h0, hρ _ _ h1]
theorem build117_2 {e : Env} {ty : TypeId} {x0 : Operand} {v0 : Value} (h0 : ev e x0 = some (v0)) (c0 : v0.cells = #[v0] := by rfl) : Pure Try.prog (.build 117 #[(2, x0)]) ty e (.agg #[(.int .u8 0), (.int .i64 0), v0]) := by
  intro w ρ dst pos af g hρ
  have hr : ∀ w, (Instr.build 117 #[(2, v0)]).run Try.prog w = .ok (.agg #[(.int .u8 0), (.int .i64 0), v0]) w := by
    intro w
    have hb : Try.prog.built 117 [(2, v0)] = some #[(.int .u8 0), (.int .i64 0), v0] := by
      have hz : Try.prog.info? 117 = some Try.t117 := by kernel_rfl
      simp [Program.built, hz, Try.t117, Try.underlying117, (show Try.prog.info? 3 = some Try.t3 by kernel_rfl), Try.t3, (show Try.prog.info? 5 = some Try.t5 by kernel_rfl), Try.t5, (show Try.prog.info? 9 = some Try.t9 by kernel_rfl), Try.t9, Instr.fill, agg_cells, c0]
    exact run_build w 117 #[(2, v0)] #[(.int .u8 0), (.int .i64 0), v0] hb
  simp [execOp, hr, hρ _ _ h0]
theorem build73_0_2 {e : Env} {ty : TypeId} {x0 x1 : Operand} {v0 v1 : Value} (h0 : ev e x0 = some (v0)) (h1 : ev e x1 = some (v1)) (c0 : v0.cells = #[v0] := by rfl) (c1 : v1.cells = #[v1] := by rfl) : Pure Try.prog (.build 73 #[(0, x0), (2, x1)]) ty e (.agg #[v0, (.slice none 0 0), v1]) := by
  intro w ρ dst pos af g hρ
  have hr : ∀ w, (Instr.build 73 #[(0, v0), (2, v1)]).run Try.prog w = .ok (.agg #[v0, (.slice none 0 0), v1]) w := by
    intro w
    have hb : Try.prog.built 73 [(0, v0), (2, v1)] = some #[v0, (.slice none 0 0), v1] := by
      have hz : Try.prog.info? 73 = some Try.t73 := by kernel_rfl
      simp [Program.built, hz, Try.t73, Try.underlying73, (show Try.prog.info? 3 = some Try.t3 by kernel_rfl), Try.t3, (show Try.prog.info? 62 = some Try.t62 by kernel_rfl), Try.t62, (show Try.prog.info? 71 = some Try.t71 by kernel_rfl), Try.t71, Instr.fill, agg_cells, c0, c1]
    exact run_build w 73 #[(0, v0), (2, v1)] #[v0, (.slice none 0 0), v1] hb
  simp [execOp, hr, hρ _ _ h0, hρ _ _ h1]
theorem build163_0_1 {e : Env} {ty : TypeId} {x0 x1 : Operand} {v0_0 v0_1 v0_2 v0_3 v0_4 v0_5 v0_6 v0_7 v0_8 v0_9 v0_10 v1 : Value} (h0 : ev e x0 = some (.agg #[v0_0, v0_1, v0_2, v0_3, v0_4, v0_5, v0_6, v0_7, v0_8, v0_9, v0_10])) (h1 : ev e x1 = some (v1)) (c1 : v1.cells = #[v1] := by rfl) : Pure Try.prog (.build 163 #[(0, x0), (1, x1)]) ty e (.agg #[v0_0, v0_1, v0_2, v0_3, v0_4, v0_5, v0_6, v0_7, v0_8, v0_9, v0_10, v1]) := by
  intro w ρ dst pos af g hρ
  have hr : ∀ w, (Instr.build 163 #[(0, .agg #[v0_0, v0_1, v0_2, v0_3, v0_4, v0_5, v0_6, v0_7, v0_8, v0_9, v0_10]), (1, v1)]).run Try.prog w = .ok (.agg #[v0_0, v0_1, v0_2, v0_3, v0_4, v0_5, v0_6, v0_7, v0_8, v0_9, v0_10, v1]) w := by
    intro w
    have hb : Try.prog.built 163 [(0, .agg #[v0_0, v0_1, v0_2, v0_3, v0_4, v0_5, v0_6, v0_7, v0_8, v0_9, v0_10]), (1, v1)] = some #[v0_0, v0_1, v0_2, v0_3, v0_4, v0_5, v0_6, v0_7, v0_8, v0_9, v0_10, v1] := by
      have hz : Try.prog.info? 163 = some Try.t163 := by kernel_rfl
      simp [Program.built, hz, Try.t163, Try.underlying163, (show Try.prog.info? 45 = some Try.t45 by kernel_rfl), Try.t45, (show Try.prog.info? 51 = some Try.t51 by kernel_rfl), Try.t51, Instr.fill, agg_cells, c1]
    exact run_build w 163 #[(0, .agg #[v0_0, v0_1, v0_2, v0_3, v0_4, v0_5, v0_6, v0_7, v0_8, v0_9, v0_10]), (1, v1)] #[v0_0, v0_1, v0_2, v0_3, v0_4, v0_5, v0_6, v0_7, v0_8, v0_9, v0_10, v1] hb
  simp [execOp, hr, hρ _ _ h0, hρ _ _ h1]
theorem build82_0_1 {e : Env} {ty : TypeId} {x0 x1 : Operand} {v0 v1 : Value} (h0 : ev e x0 = some (v0)) (h1 : ev e x1 = some (v1)) (c0 : v0.cells = #[v0] := by rfl) (c1 : v1.cells = #[v1] := by rfl) : Pure Try.prog (.build 82 #[(0, x0), (1, x1)]) ty e (.agg #[v0, v1, (.slice none 0 0), (.slice none 0 0)]) := by
  intro w ρ dst pos af g hρ
  have hr : ∀ w, (Instr.build 82 #[(0, v0), (1, v1)]).run Try.prog w = .ok (.agg #[v0, v1, (.slice none 0 0), (.slice none 0 0)]) w := by
    intro w
    have hb : Try.prog.built 82 [(0, v0), (1, v1)] = some #[v0, v1, (.slice none 0 0), (.slice none 0 0)] := by
      have hz : Try.prog.info? 82 = some Try.t82 := by kernel_rfl
      simp [Program.built, hz, Try.t82, Try.underlying82, (show Try.prog.info? 4 = some Try.t4 by kernel_rfl), Try.t4, (show Try.prog.info? 45 = some Try.t45 by kernel_rfl), Try.t45, (show Try.prog.info? 62 = some Try.t62 by kernel_rfl), Try.t62, (show Try.prog.info? 80 = some Try.t80 by kernel_rfl), Try.t80, Instr.fill, agg_cells, c0, c1]
    exact run_build w 82 #[(0, v0), (1, v1)] #[v0, v1, (.slice none 0 0), (.slice none 0 0)] hb
  simp [execOp, hr, hρ _ _ h0, hρ _ _ h1]
theorem build138_0_1 {e : Env} {ty : TypeId} {x0 x1 : Operand} {v0 v1 : Value} (h0 : ev e x0 = some (v0)) (h1 : ev e x1 = some (v1)) (c0 : v0.cells = #[v0] := by rfl) (c1 : v1.cells = #[v1] := by rfl) : Pure Try.prog (.build 138 #[(0, x0), (1, x1)]) ty e (.agg #[v0, v1]) := by
  intro w ρ dst pos af g hρ
  have hr : ∀ w, (Instr.build 138 #[(0, v0), (1, v1)]).run Try.prog w = .ok (.agg #[v0, v1]) w := by
    intro w
    have hb : Try.prog.built 138 [(0, v0), (1, v1)] = some #[v0, v1] := by
      have hz : Try.prog.info? 138 = some Try.t138 := by kernel_rfl
      simp [Program.built, hz, Try.t138, Try.underlying138, (show Try.prog.info? 3 = some Try.t3 by kernel_rfl), Try.t3, Instr.fill, agg_cells, c0, c1]
    exact run_build w 138 #[(0, v0), (1, v1)] #[v0, v1] hb
  simp [execOp, hr, hρ _ _ h0, hρ _ _ h1]
theorem build70_0_1 {e : Env} {ty : TypeId} {x0 x1 : Operand} {v0 v1 : Value} (h0 : ev e x0 = some (v0)) (h1 : ev e x1 = some (v1)) (c0 : v0.cells = #[v0] := by rfl) (c1 : v1.cells = #[v1] := by rfl) : Pure Try.prog (.build 70 #[(0, x0), (1, x1)]) ty e (.agg #[v0, v1, (.int .i64 0)]) := by
  intro w ρ dst pos af g hρ
  have hr : ∀ w, (Instr.build 70 #[(0, v0), (1, v1)]).run Try.prog w = .ok (.agg #[v0, v1, (.int .i64 0)]) w := by
    intro w
    have hb : Try.prog.built 70 [(0, v0), (1, v1)] = some #[v0, v1, (.int .i64 0)] := by
      have hz : Try.prog.info? 70 = some Try.t70 := by kernel_rfl
      simp [Program.built, hz, Try.t70, Try.underlying70, (show Try.prog.info? 3 = some Try.t3 by kernel_rfl), Try.t3, Instr.fill, agg_cells, c0, c1]
    exact run_build w 70 #[(0, v0), (1, v1)] #[v0, v1, (.int .i64 0)] hb
  simp [execOp, hr, hρ _ _ h0, hρ _ _ h1]
theorem build51_0_2_4 {e : Env} {ty : TypeId} {x0 x1 x2 : Operand} {v0 v1 v2 : Value} (h0 : ev e x0 = some (v0)) (h1 : ev e x1 = some (v1)) (h2 : ev e x2 = some (v2)) (c0 : v0.cells = #[v0] := by rfl) (c1 : v1.cells = #[v1] := by rfl) (c2 : v2.cells = #[v2] := by rfl) : Pure Try.prog (.build 51 #[(0, x0), (2, x1), (4, x2)]) ty e (.agg #[v0, (.slice none 0 0), v1, (.slice none 0 0), v2, (.slice none 0 0), (.slice none 0 0), (.slice none 0 0), (.slice none 0 0), (.slice none 0 0), (.slice none 0 0)]) := by
  intro w ρ dst pos af g hρ
  have hr : ∀ w, (Instr.build 51 #[(0, v0), (2, v1), (4, v2)]).run Try.prog w = .ok (.agg #[v0, (.slice none 0 0), v1, (.slice none 0 0), v2, (.slice none 0 0), (.slice none 0 0), (.slice none 0 0), (.slice none 0 0), (.slice none 0 0), (.slice none 0 0)]) w := by
    intro w
    have hb : Try.prog.built 51 [(0, v0), (2, v1), (4, v2)] = some #[v0, (.slice none 0 0), v1, (.slice none 0 0), v2, (.slice none 0 0), (.slice none 0 0), (.slice none 0 0), (.slice none 0 0), (.slice none 0 0), (.slice none 0 0)] := by
      have hz : Try.prog.info? 51 = some Try.t51 := by kernel_rfl
      simp [Program.built, hz, Try.t51, Try.underlying51, (show Try.prog.info? 3 = some Try.t3 by kernel_rfl), Try.t3, (show Try.prog.info? 37 = some Try.t37 by kernel_rfl), Try.t37, (show Try.prog.info? 45 = some Try.t45 by kernel_rfl), Try.t45, (show Try.prog.info? 46 = some Try.t46 by kernel_rfl), Try.t46, (show Try.prog.info? 47 = some Try.t47 by kernel_rfl), Try.t47, (show Try.prog.info? 48 = some Try.t48 by kernel_rfl), Try.t48, (show Try.prog.info? 49 = some Try.t49 by kernel_rfl), Try.t49, Instr.fill, agg_cells, c0, c1, c2]
    exact run_build w 51 #[(0, v0), (2, v1), (4, v2)] #[v0, (.slice none 0 0), v1, (.slice none 0 0), v2, (.slice none 0 0), (.slice none 0 0), (.slice none 0 0), (.slice none 0 0), (.slice none 0 0), (.slice none 0 0)] hb
  simp [execOp, hr, hρ _ _ h0, hρ _ _ h1, hρ _ _ h2]
theorem build73_0_1_2 {e : Env} {ty : TypeId} {x0 x1 x2 : Operand} {v0 v1 v2 : Value} (h0 : ev e x0 = some (v0)) (h1 : ev e x1 = some (v1)) (h2 : ev e x2 = some (v2)) (c0 : v0.cells = #[v0] := by rfl) (c1 : v1.cells = #[v1] := by rfl) (c2 : v2.cells = #[v2] := by rfl) : Pure Try.prog (.build 73 #[(0, x0), (1, x1), (2, x2)]) ty e (.agg #[v0, v1, v2]) := by
  intro w ρ dst pos af g hρ
  have hr : ∀ w, (Instr.build 73 #[(0, v0), (1, v1), (2, v2)]).run Try.prog w = .ok (.agg #[v0, v1, v2]) w := by
    intro w
    have hb : Try.prog.built 73 [(0, v0), (1, v1), (2, v2)] = some #[v0, v1, v2] := by
      have hz : Try.prog.info? 73 = some Try.t73 := by kernel_rfl
      simp [Program.built, hz, Try.t73, Try.underlying73, (show Try.prog.info? 3 = some Try.t3 by kernel_rfl), Try.t3, (show Try.prog.info? 62 = some Try.t62 by kernel_rfl), Try.t62, (show Try.prog.info? 71 = some Try.t71 by kernel_rfl), Try.t71, Instr.fill, agg_cells, c0, c1, c2]
    exact run_build w 73 #[(0, v0), (1, v1), (2, v2)] #[v0, v1, v2] hb
  simp [execOp, hr, hρ _ _ h0, hρ _ _ h1, hρ _ _ h2]
theorem buildS37_1 {e : Env} {w : World} {ty : TypeId} {x0 : Operand} {v0_0 v0_1 v0_2 : Value} (h0 : ev e x0 = some (.agg #[v0_0, v0_1, v0_2])) : Does Try.prog (.buildSlice 37 1 #[(0, x0)]) ty e w (.slice (some ⟨w.heap.size, 0, none⟩) 1 1) (w.alloc (.cells #[v0_0, v0_1, v0_2] 43)) := by
  intro ρ dst pos af g hρ
  simp [execOp, Instr.buildSlice, run_underlying Try.underlying37, Try.sizeOf43, Try.zeroValue43, Instr.fill, newRow, agg_cells, Array.range, hρ _ _ h0] <;> rfl
theorem buildS45_2 {e : Env} {w : World} {ty : TypeId} {x0 x1 : Operand} {v0 v1 : Value} (h0 : ev e x0 = some (v0)) (h1 : ev e x1 = some (v1)) (c0 : v0.cells = #[v0] := by rfl) (c1 : v1.cells = #[v1] := by rfl) : Does Try.prog (.buildSlice 45 2 #[(0, x0), (1, x1)]) ty e w (.slice (some ⟨w.heap.size, 0, none⟩) 2 2) (w.alloc (.cells #[v0, v1] 3)) := by
  intro ρ dst pos af g hρ
  simp [execOp, Instr.buildSlice, run_underlying Try.underlying45, Try.sizeOf3, Try.zeroValue3, Instr.fill, newRow, agg_cells, Array.range, hρ _ _ h0, hρ _ _ h1, c0, c1] <;> rfl
theorem buildS45_3 {e : Env} {w : World} {ty : TypeId} {x0 x1 x2 : Operand} {v0 v1 v2 : Value} (h0 : ev e x0 = some (v0)) (h1 : ev e x1 = some (v1)) (h2 : ev e x2 = some (v2)) (c0 : v0.cells = #[v0] := by rfl) (c1 : v1.cells = #[v1] := by rfl) (c2 : v2.cells = #[v2] := by rfl) : Does Try.prog (.buildSlice 45 3 #[(0, x0), (1, x1), (2, x2)]) ty e w (.slice (some ⟨w.heap.size, 0, none⟩) 3 3) (w.alloc (.cells #[v0, v1, v2] 3)) := by
  intro ρ dst pos af g hρ
  simp [execOp, Instr.buildSlice, run_underlying Try.underlying45, Try.sizeOf3, Try.zeroValue3, Instr.fill, newRow, agg_cells, Array.range, hρ _ _ h0, hρ _ _ h1, hρ _ _ h2, c0, c1, c2] <;> rfl
theorem buildS37_0 {e : Env} {w : World} {ty : TypeId} : Does Try.prog (.buildSlice 37 0 #[]) ty e w (.slice (some ⟨w.heap.size, 0, none⟩) 0 0) (w.alloc (.cells #[] 43)) := by
  intro ρ dst pos af g hρ
  simp [execOp, Instr.buildSlice, run_underlying Try.underlying37, Try.sizeOf43, Instr.fill, newRow, Array.range_zero']
theorem buildS45_0 {e : Env} {w : World} {ty : TypeId} : Does Try.prog (.buildSlice 45 0 #[]) ty e w (.slice (some ⟨w.heap.size, 0, none⟩) 0 0) (w.alloc (.cells #[] 3)) := by
  intro ρ dst pos af g hρ
  simp [execOp, Instr.buildSlice, run_underlying Try.underlying45, Try.sizeOf3, Instr.fill, newRow, Array.range_zero']
theorem buildS47_1 {e : Env} {w : World} {ty : TypeId} {x0 : Operand} {v0 : Value} (h0 : ev e x0 = some (v0)) (c0 : v0.cells = #[v0] := by rfl) : Does Try.prog (.buildSlice 47 1 #[(0, x0)]) ty e w (.slice (some ⟨w.heap.size, 0, none⟩) 1 1) (w.alloc (.cells #[v0] 45)) := by
  intro ρ dst pos af g hρ
  simp [execOp, Instr.buildSlice, run_underlying Try.underlying47, Try.sizeOf45, Try.zeroValue45, Instr.fill, newRow, agg_cells, Array.range, hρ _ _ h0, c0] <;> rfl
theorem buildS46_0 {e : Env} {w : World} {ty : TypeId} : Does Try.prog (.buildSlice 46 0 #[]) ty e w (.slice (some ⟨w.heap.size, 0, none⟩) 0 0) (w.alloc (.cells #[] 70)) := by
  intro ρ dst pos af g hρ
  simp [execOp, Instr.buildSlice, run_underlying Try.underlying46, Try.sizeOf70, Instr.fill, newRow, Array.range_zero']
theorem buildS48_0 {e : Env} {w : World} {ty : TypeId} : Does Try.prog (.buildSlice 48 0 #[]) ty e w (.slice (some ⟨w.heap.size, 0, none⟩) 0 0) (w.alloc (.cells #[] 117)) := by
  intro ρ dst pos af g hρ
  simp [execOp, Instr.buildSlice, run_underlying Try.underlying48, Try.sizeOf117, Instr.fill, newRow, Array.range_zero']
theorem buildS49_0 {e : Env} {w : World} {ty : TypeId} : Does Try.prog (.buildSlice 49 0 #[]) ty e w (.slice (some ⟨w.heap.size, 0, none⟩) 0 0) (w.alloc (.cells #[] 9)) := by
  intro ρ dst pos af g hρ
  simp [execOp, Instr.buildSlice, run_underlying Try.underlying49, Try.sizeOf9, Instr.fill, newRow, Array.range_zero']
theorem buildS45_1 {e : Env} {w : World} {ty : TypeId} {x0 : Operand} {v0 : Value} (h0 : ev e x0 = some (v0)) (c0 : v0.cells = #[v0] := by rfl) : Does Try.prog (.buildSlice 45 1 #[(0, x0)]) ty e w (.slice (some ⟨w.heap.size, 0, none⟩) 1 1) (w.alloc (.cells #[v0] 3)) := by
  intro ρ dst pos af g hρ
  simp [execOp, Instr.buildSlice, run_underlying Try.underlying45, Try.sizeOf3, Try.zeroValue3, Instr.fill, newRow, agg_cells, Array.range, hρ _ _ h0, c0] <;> rfl
theorem buildS46_1 {e : Env} {w : World} {ty : TypeId} {x0 : Operand} {v0_0 v0_1 v0_2 : Value} (h0 : ev e x0 = some (.agg #[v0_0, v0_1, v0_2])) : Does Try.prog (.buildSlice 46 1 #[(0, x0)]) ty e w (.slice (some ⟨w.heap.size, 0, none⟩) 1 1) (w.alloc (.cells #[v0_0, v0_1, v0_2] 70)) := by
  intro ρ dst pos af g hρ
  simp [execOp, Instr.buildSlice, run_underlying Try.underlying46, Try.sizeOf70, Try.zeroValue70, Instr.fill, newRow, agg_cells, Array.range, hρ _ _ h0] <;> rfl
theorem buildS47_3 {e : Env} {w : World} {ty : TypeId} {x0 x1 x2 : Operand} {v0 v1 v2 : Value} (h0 : ev e x0 = some (v0)) (h1 : ev e x1 = some (v1)) (h2 : ev e x2 = some (v2)) (c0 : v0.cells = #[v0] := by rfl) (c1 : v1.cells = #[v1] := by rfl) (c2 : v2.cells = #[v2] := by rfl) : Does Try.prog (.buildSlice 47 3 #[(0, x0), (1, x1), (2, x2)]) ty e w (.slice (some ⟨w.heap.size, 0, none⟩) 3 3) (w.alloc (.cells #[v0, v1, v2] 45)) := by
  intro ρ dst pos af g hρ
  simp [execOp, Instr.buildSlice, run_underlying Try.underlying47, Try.sizeOf45, Try.zeroValue45, Instr.fill, newRow, agg_cells, Array.range, hρ _ _ h0, hρ _ _ h1, hρ _ _ h2, c0, c1, c2] <;> rfl
theorem buildS47_0 {e : Env} {w : World} {ty : TypeId} : Does Try.prog (.buildSlice 47 0 #[]) ty e w (.slice (some ⟨w.heap.size, 0, none⟩) 0 0) (w.alloc (.cells #[] 45)) := by
  intro ρ dst pos af g hρ
  simp [execOp, Instr.buildSlice, run_underlying Try.underlying47, Try.sizeOf45, Instr.fill, newRow, Array.range_zero']
theorem buildS62_0 {e : Env} {w : World} {ty : TypeId} : Does Try.prog (.buildSlice 62 0 #[]) ty e w (.slice (some ⟨w.heap.size, 0, none⟩) 0 0) (w.alloc (.cells #[] 4)) := by
  intro ρ dst pos af g hρ
  simp [execOp, Instr.buildSlice, run_underlying Try.underlying62, Try.sizeOf4, Instr.fill, newRow, Array.range_zero']
theorem buildS71_1 {e : Env} {w : World} {ty : TypeId} {x0 : Operand} {v0 : Value} (h0 : ev e x0 = some (v0)) (c0 : v0.cells = #[v0] := by rfl) : Does Try.prog (.buildSlice 71 1 #[(0, x0)]) ty e w (.slice (some ⟨w.heap.size, 0, none⟩) 1 1) (w.alloc (.cells #[v0] 62)) := by
  intro ρ dst pos af g hρ
  simp [execOp, Instr.buildSlice, run_underlying Try.underlying71, Try.sizeOf62, Try.zeroValue62, Instr.fill, newRow, agg_cells, Array.range, hρ _ _ h0, c0] <;> rfl
theorem buildS75_1 {e : Env} {w : World} {ty : TypeId} {x0 : Operand} {v0_0 v0_1 v0_2 v0_3 : Value} (h0 : ev e x0 = some (.agg #[v0_0, v0_1, v0_2, v0_3])) : Does Try.prog (.buildSlice 75 1 #[(0, x0)]) ty e w (.slice (some ⟨w.heap.size, 0, none⟩) 1 1) (w.alloc (.cells #[v0_0, v0_1, v0_2, v0_3] 82)) := by
  intro ρ dst pos af g hρ
  simp [execOp, Instr.buildSlice, run_underlying Try.underlying75, Try.sizeOf82, Try.zeroValue82, Instr.fill, newRow, agg_cells, Array.range, hρ _ _ h0] <;> rfl
theorem buildS80_1 {e : Env} {w : World} {ty : TypeId} {x0 : Operand} {v0_0 v0_1 : Value} (h0 : ev e x0 = some (.agg #[v0_0, v0_1])) : Does Try.prog (.buildSlice 80 1 #[(0, x0)]) ty e w (.slice (some ⟨w.heap.size, 0, none⟩) 1 1) (w.alloc (.cells #[v0_0, v0_1] 138)) := by
  intro ρ dst pos af g hρ
  simp [execOp, Instr.buildSlice, run_underlying Try.underlying80, Try.sizeOf138, Try.zeroValue138, Instr.fill, newRow, agg_cells, Array.range, hρ _ _ h0] <;> rfl
theorem buildS62_1 {e : Env} {w : World} {ty : TypeId} {x0 : Operand} {v0 : Value} (h0 : ev e x0 = some (v0)) (c0 : v0.cells = #[v0] := by rfl) : Does Try.prog (.buildSlice 62 1 #[(0, x0)]) ty e w (.slice (some ⟨w.heap.size, 0, none⟩) 1 1) (w.alloc (.cells #[v0] 4)) := by
  intro ρ dst pos af g hρ
  simp [execOp, Instr.buildSlice, run_underlying Try.underlying62, Try.sizeOf4, Try.zeroValue4, Instr.fill, newRow, agg_cells, Array.range, hρ _ _ h0, c0] <;> rfl
theorem buildS71_2 {e : Env} {w : World} {ty : TypeId} {x0 x1 : Operand} {v0 v1 : Value} (h0 : ev e x0 = some (v0)) (h1 : ev e x1 = some (v1)) (c0 : v0.cells = #[v0] := by rfl) (c1 : v1.cells = #[v1] := by rfl) : Does Try.prog (.buildSlice 71 2 #[(0, x0), (1, x1)]) ty e w (.slice (some ⟨w.heap.size, 0, none⟩) 2 2) (w.alloc (.cells #[v0, v1] 62)) := by
  intro ρ dst pos af g hρ
  simp [execOp, Instr.buildSlice, run_underlying Try.underlying71, Try.sizeOf62, Try.zeroValue62, Instr.fill, newRow, agg_cells, Array.range, hρ _ _ h0, hρ _ _ h1, c0, c1] <;> rfl
end SC
end Go.Proofs.Ytkndegjodnciaaa
