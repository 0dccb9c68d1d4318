import Derived.Test.YtjdpnadhgjohnaaGreatDoorJN0
import Derived.Test.YtjdpnadhgjohnaaGreatDoorJN17
import Derived.Test.YtjdpnadhgjohnaaGreatDoorJN18
import Derived.Test.YtjdpnadhgjohnaaGreatDoorProg
set_option linter.unusedSimpArgs false
set_option linter.unusedVariables false
set_option linter.unusedSectionVars false
section
namespace Go.Proofs.YtjdpnadhgjohnaaGreatDoor.Aw
open Go Go.Proofs
class IsP (P:Program):Prop where
 eq:P=Tryz.prog
instance:IsP Tryz.prog:=⟨rfl⟩
variable {P:Program}[IsP P]
theorem hmix:P.follows .mixedOrders=true:=by rw[IsP.eq (P:=P)];kernel_rfl
theorem ti3:za6 P 3=some (some (.int .i64 0),1,8):=by rw[IsP.eq (P:=P)];kernel_rfl
theorem ta3:zcw P 3=some false:=by rw[IsP.eq (P:=P)];kernel_rfl
theorem tu3:(P.underlying 3).isSome=true:=by rw[IsP.eq (P:=P)];kernel_rfl
theorem tk3:zrm P 3=some .i64:=by rw[IsP.eq (P:=P)];kernel_rfl
theorem ti4:za6 P 4=some (some (.bool false),1,1):=by rw[IsP.eq (P:=P)];kernel_rfl
theorem ta4:zcw P 4=some false:=by rw[IsP.eq (P:=P)];kernel_rfl
theorem ti5:za6 P 5=some (some (.int .u8 0),1,1):=by rw[IsP.eq (P:=P)];kernel_rfl
theorem tu5:(P.underlying 5).isSome=true:=by rw[IsP.eq (P:=P)];kernel_rfl
theorem tk5:zrm P 5=some .u8:=by rw[IsP.eq (P:=P)];kernel_rfl
theorem ti9:za6 P 9=some (some (.string ⟨#[]⟩),1,16):=by rw[IsP.eq (P:=P)];kernel_rfl
theorem ta9:zcw P 9=some false:=by rw[IsP.eq (P:=P)];kernel_rfl
theorem tg9:zff P 9=true:=by rw[IsP.eq (P:=P)];kernel_rfl
theorem ta22:zcw P 22=some false:=by rw[IsP.eq (P:=P)];kernel_rfl
theorem ts22:za5 P 22=some 76:=by rw[IsP.eq (P:=P)];kernel_rfl
theorem ti24:za6 P 24=some (some (.agg #[.int .i64 0, .slice none 0 0, .int .i64 0, .int .i64 0]),4,48):=by rw[IsP.eq (P:=P)];kernel_rfl
theorem ta24:zcw P 24=some true:=by rw[IsP.eq (P:=P)];kernel_rfl
theorem zfn:zbx P 24 0=some (0,3,some 1):=by rw[IsP.eq (P:=P)];kernel_rfl
theorem zdi:zbx P 24 1=some (1,22,some 1):=by rw[IsP.eq (P:=P)];kernel_rfl
theorem tp24:zei P 24=some [(0,1),(1,1),(2,1),(3,1)]:=by rw[IsP.eq (P:=P)];kernel_rfl
theorem ts25:za5 P 25=some 9:=by rw[IsP.eq (P:=P)];kernel_rfl
theorem ti27:za6 P 27=some (some (.agg #[.int .i64 0, .int .i64 0, .int .i64 0]),3,24):=by rw[IsP.eq (P:=P)];kernel_rfl
theorem ta27:zcw P 27=some true:=by rw[IsP.eq (P:=P)];kernel_rfl
theorem zu6:zbx P 27 0=some (0,3,some 1):=by rw[IsP.eq (P:=P)];kernel_rfl
theorem z5h:zbx P 27 1=some (1,3,some 1):=by rw[IsP.eq (P:=P)];kernel_rfl
theorem tf27_2:zbx P 27 2=some (2,3,some 1):=by rw[IsP.eq (P:=P)];kernel_rfl
theorem tp27:zei P 27=some [(0,1),(1,1),(2,1)]:=by rw[IsP.eq (P:=P)];kernel_rfl
theorem ti38:za6 P 38=some (some (.slice none 0 0),1,24):=by rw[IsP.eq (P:=P)];kernel_rfl
theorem ta38:zcw P 38=some false:=by rw[IsP.eq (P:=P)];kernel_rfl
theorem ts38:za5 P 38=some 3:=by rw[IsP.eq (P:=P)];kernel_rfl
theorem ti39:za6 P 39=some (some (.slice none 0 0),1,24):=by rw[IsP.eq (P:=P)];kernel_rfl
theorem ta39:zcw P 39=some false:=by rw[IsP.eq (P:=P)];kernel_rfl
theorem ts39:za5 P 39=some 102:=by rw[IsP.eq (P:=P)];kernel_rfl
theorem ti40:za6 P 40=some (some (.slice none 0 0),1,24):=by rw[IsP.eq (P:=P)];kernel_rfl
theorem ta40:zcw P 40=some false:=by rw[IsP.eq (P:=P)];kernel_rfl
theorem ts40:za5 P 40=some 39:=by rw[IsP.eq (P:=P)];kernel_rfl
theorem ti42:za6 P 42=some (some (.agg #[.slice none 0 0, .slice none 0 0, .slice none 0 0, .slice none 0 0]),4,96):=by rw[IsP.eq (P:=P)];kernel_rfl
theorem ta42:zcw P 42=some true:=by rw[IsP.eq (P:=P)];kernel_rfl
theorem zo3:zbx P 42 0=some (0,39,some 1):=by rw[IsP.eq (P:=P)];kernel_rfl
theorem z5g:zbx P 42 1=some (1,40,some 1):=by rw[IsP.eq (P:=P)];kernel_rfl
theorem z5f:zbx P 42 2=some (2,38,some 1):=by rw[IsP.eq (P:=P)];kernel_rfl
theorem z5e:zbx P 42 3=some (3,39,some 1):=by rw[IsP.eq (P:=P)];kernel_rfl
theorem tp42:zei P 42=some [(0,1),(1,1),(2,1),(3,1)]:=by rw[IsP.eq (P:=P)];kernel_rfl
theorem ti54:za6 P 54=some (some (.slice none 0 0),1,24):=by rw[IsP.eq (P:=P)];kernel_rfl
theorem ta54:zcw P 54=some false:=by rw[IsP.eq (P:=P)];kernel_rfl
theorem ts54:za5 P 54=some 66:=by rw[IsP.eq (P:=P)];kernel_rfl
theorem ti56:za6 P 56=some (some (.agg #[.slice none 0 0, .int .i64 0]),2,32):=by rw[IsP.eq (P:=P)];kernel_rfl
theorem ta56:zcw P 56=some true:=by rw[IsP.eq (P:=P)];kernel_rfl
theorem zlo:zbx P 56 0=some (0,54,some 1):=by rw[IsP.eq (P:=P)];kernel_rfl
theorem zu5:zbx P 56 1=some (1,3,some 1):=by rw[IsP.eq (P:=P)];kernel_rfl
theorem tp56:zei P 56=some [(0,1),(1,1)]:=by rw[IsP.eq (P:=P)];kernel_rfl
theorem ti66:za6 P 66=some (some (.agg #[.int .i64 0, .int .i64 0, .string ⟨#[]⟩]),3,32):=by rw[IsP.eq (P:=P)];kernel_rfl
theorem ta66:zcw P 66=some true:=by rw[IsP.eq (P:=P)];kernel_rfl
theorem tp66:zei P 66=some [(0,1),(1,1),(2,1)]:=by rw[IsP.eq (P:=P)];kernel_rfl
theorem ti76:za6 P 76=some (some (.agg #[.string ⟨#[]⟩, .slice none 0 0, .slice none 0 0]),3,64):=by rw[IsP.eq (P:=P)];kernel_rfl
theorem ta76:zcw P 76=some true:=by rw[IsP.eq (P:=P)];kernel_rfl
theorem zo2:zbx P 76 0=some (0,9,some 1):=by rw[IsP.eq (P:=P)];kernel_rfl
theorem zln:zbx P 76 1=some (1,38,some 1):=by rw[IsP.eq (P:=P)];kernel_rfl
theorem zmp:zbx P 76 2=some (2,38,some 1):=by rw[IsP.eq (P:=P)];kernel_rfl
theorem tp76:zei P 76=some [(0,1),(1,1),(2,1)]:=by rw[IsP.eq (P:=P)];kernel_rfl
theorem ti83:za6 P 83=some (some (.slice none 0 0),1,24):=by rw[IsP.eq (P:=P)];kernel_rfl
theorem ta83:zcw P 83=some false:=by rw[IsP.eq (P:=P)];kernel_rfl
theorem ts83:za5 P 83=some 38:=by rw[IsP.eq (P:=P)];kernel_rfl
theorem ti84:za6 P 84=some (some (.slice none 0 0),1,24):=by rw[IsP.eq (P:=P)];kernel_rfl
theorem ta84:zcw P 84=some false:=by rw[IsP.eq (P:=P)];kernel_rfl
theorem ts84:za5 P 84=some 4:=by rw[IsP.eq (P:=P)];kernel_rfl
theorem ta85:zcw P 85=some false:=by rw[IsP.eq (P:=P)];kernel_rfl
theorem tm85:zs8 P 85=some (9,3):=by rw[IsP.eq (P:=P)];kernel_rfl
theorem tn9:P.underlying 9=some .string:=by rw[IsP.eq (P:=P)];kernel_rfl
theorem tn3:P.underlying 3=some (.int .i64):=by rw[IsP.eq (P:=P)];kernel_rfl
theorem tK9:Go.Maps.Keyed P 9:=Go.Maps.string_keyed tn9
theorem ti87:za6 P 87=some (some (.agg #[.int .i64 0, .slice none 0 0, .int .i64 0, .int .i64 0, .slice none 0 0, .int .i64 0, .int .i64 0, .int .i64 0, .slice none 0 0, .slice none 0 0, .slice none 0 0, .slice none 0 0, .slice none 0 0, .map none]),14,224):=by rw[IsP.eq (P:=P)];kernel_rfl
theorem zmo:zbx P 87 3=some (8,83,some 1):=by rw[IsP.eq (P:=P)];kernel_rfl
theorem zjz:zbx P 87 4=some (9,38,some 1):=by rw[IsP.eq (P:=P)];kernel_rfl
theorem zo1:zbx P 87 5=some (10,38,some 1):=by rw[IsP.eq (P:=P)];kernel_rfl
theorem zu4:zbx P 87 6=some (11,54,some 1):=by rw[IsP.eq (P:=P)];kernel_rfl
theorem zrn:zbx P 87 7=some (12,84,some 1):=by rw[IsP.eq (P:=P)];kernel_rfl
theorem zu3:zbx P 87 8=some (13,85,some 1):=by rw[IsP.eq (P:=P)];kernel_rfl
theorem tp87:zei P 87=some [(0,4),(4,1),(5,3),(8,1),(9,1),(10,1),(11,1),(12,1),(13,1)]:=by rw[IsP.eq (P:=P)];kernel_rfl
theorem ts88:za5 P 88=some 92:=by rw[IsP.eq (P:=P)];kernel_rfl
theorem ti92:za6 P 92=some (some (.agg #[.slice none 0 0, .int .i64 0, .bool false, .int .i64 0, .int .i64 0, .int .i64 0, .string ⟨#[]⟩]),7,80):=by rw[IsP.eq (P:=P)];kernel_rfl
theorem zu2:zbx P 92 0=some (0,38,some 1):=by rw[IsP.eq (P:=P)];kernel_rfl
theorem zgt:zbx P 92 1=some (1,3,some 1):=by rw[IsP.eq (P:=P)];kernel_rfl
theorem zlm:zbx P 92 2=some (2,4,some 1):=by rw[IsP.eq (P:=P)];kernel_rfl
theorem tf92_3:zbx P 92 3=some (3,3,some 1):=by rw[IsP.eq (P:=P)];kernel_rfl
theorem tf92_4:zbx P 92 4=some (4,66,some 3):=by rw[IsP.eq (P:=P)];kernel_rfl
theorem tp92:zei P 92=some [(0,1),(1,1),(2,1),(3,1),(4,3)]:=by rw[IsP.eq (P:=P)];kernel_rfl
theorem zex:za6 P 102=some (some (.agg #[.int .i64 0, .int .i64 0]),2,16):=by rw[IsP.eq (P:=P)];kernel_rfl
theorem z2z:zcw P 102=some true:=by rw[IsP.eq (P:=P)];kernel_rfl
theorem zta:zbx P 102 0=some (0,3,some 1):=by rw[IsP.eq (P:=P)];kernel_rfl
theorem zs9:zbx P 102 1=some (1,3,some 1):=by rw[IsP.eq (P:=P)];kernel_rfl
theorem tp102:zei P 102=some [(0,1),(1,1)]:=by rw[IsP.eq (P:=P)];kernel_rfl
theorem ti110:za6 P 110=some (some (.agg #[.int .i64 0, .slice none 0 0, .slice none 0 0, .slice none 0 0, .int .i64 0, .int .i64 0]),6,96):=by rw[IsP.eq (P:=P)];kernel_rfl
theorem zyf:zbx P 110 0=some (0,3,some 1):=by rw[IsP.eq (P:=P)];kernel_rfl
theorem z6q:zbx P 110 4=some (4,102,some 2):=by rw[IsP.eq (P:=P)];kernel_rfl
theorem zfo:za6 P 147=some (some (.agg #[.int .i64 0, .int .i64 0]),2,16):=by rw[IsP.eq (P:=P)];kernel_rfl
theorem z2y:zcw P 147=some true:=by rw[IsP.eq (P:=P)];kernel_rfl
theorem zg9:zbx P 147 0=some (0,3,some 1):=by rw[IsP.eq (P:=P)];kernel_rfl
theorem zfw:zbx P 147 1=some (1,3,some 1):=by rw[IsP.eq (P:=P)];kernel_rfl
theorem z6m:zei P 147=some [(0,1),(1,1)]:=by rw[IsP.eq (P:=P)];kernel_rfl
theorem ti149:za6 P 149=some (some (.slice none 0 0),1,24):=by rw[IsP.eq (P:=P)];kernel_rfl
theorem zmq:zcw P 149=some false:=by rw[IsP.eq (P:=P)];kernel_rfl
theorem zjx:za5 P 149=some 147:=by rw[IsP.eq (P:=P)];kernel_rfl
theorem z2x:za5 P 194=some 5:=by rw[IsP.eq (P:=P)];kernel_rfl
theorem tu200:(P.underlying 200).isSome=true:=by rw[IsP.eq (P:=P)];kernel_rfl
theorem z6o:zrm P 200=some .u64:=by rw[IsP.eq (P:=P)];kernel_rfl
theorem tu245:(P.underlying 245).isSome=true:=by rw[IsP.eq (P:=P)];kernel_rfl
end Go.Proofs.YtjdpnadhgjohnaaGreatDoor.Aw
end
