/- A closed law: tables of calls, by program. -/
import Derived.Test.YtmdopblmkkameaaNmA
namespace Go.Proofs.Ytmdopblmkkameaa.Nm
open Go Go.Lay
set_option maxRecDepth 100000
theorem e141_ok : EntSnd Try.prog e141 := ent_full prog_ok tbl_nil 100000 (by kernel_rfl)
theorem e142_ok : EntSnd Try.prog e142 := ent_full prog_ok tbl_nil 100000 (by kernel_rfl)
theorem e144_ok : EntSnd Try.prog e144 := ent_full prog_ok tbl_nil 100000 (by kernel_rfl)
theorem e145_ok : EntSnd Try.prog e145 := ent_full prog_ok tbl_nil 100000 (by kernel_rfl)
theorem e147_ok : EntSnd Try.prog e147 := ent_full prog_ok tbl_nil 100000 (by kernel_rfl)
theorem e148_ok : EntSnd Try.prog e148 := ent_full prog_ok tbl_nil 100000 (by kernel_rfl)
theorem e150_ok : EntSnd Try.prog e150 := ent_full prog_ok tbl_nil 100000 (by kernel_rfl)
theorem e151_ok : EntSnd Try.prog e151 := ent_full prog_ok tbl_nil 100000 (by kernel_rfl)
theorem e154_ok : EntSnd Try.prog e154 := ent_full prog_ok tbl_nil 100000 (by kernel_rfl)
theorem e155_ok : EntSnd Try.prog e155 := ent_full prog_ok tbl_nil 100000 (by kernel_rfl)
theorem e157_ok : EntSnd Try.prog e157 := ent_full prog_ok tbl_nil 100000 (by kernel_rfl)
theorem e158_ok : EntSnd Try.prog e158 := ent_full prog_ok tbl_nil 100000 (by kernel_rfl)
theorem e160_ok : EntSnd Try.prog e160 := ent_full prog_ok tbl_nil 100000 (by kernel_rfl)
theorem e161_ok : EntSnd Try.prog e161 := ent_full prog_ok tbl_nil 100000 (by kernel_rfl)
theorem e164_ok : EntSnd Try.prog e164 := ent_full prog_ok tbl_nil 100000 (by kernel_rfl)
theorem e165_ok : EntSnd Try.prog e165 := ent_full prog_ok tbl_nil 100000 (by kernel_rfl)
theorem e167_ok : EntSnd Try.prog e167 := ent_full prog_ok tbl_nil 100000 (by kernel_rfl)
theorem e168_ok : EntSnd Try.prog e168 := ent_full prog_ok tbl_nil 100000 (by kernel_rfl)
end Go.Proofs.Ytmdopblmkkameaa.Nm
