/- Part of a proof that a law of the program holds for every input: printed by a program of this work: how the functions are walked. No conditions. -/
import Derived.Test.YtgpdnmfpgkkgcaaGreatDoorProg
import Derived.Test.YtgpdnmfpgkkgcaaGreatDoorF03
namespace Go.Proofs.YtgpdnmfpgkkgcaaGreatDoor
open Go
set_option linter.unusedVariables false
set_option maxRecDepth 8000
set_option maxHeartbeats 4000000
noncomputable abbrev prog:Program:=Tryz.prog
def Zvy:List (Nat×TI):=[(1,⟨.fn,1,8,[.nilFunc],none⟩),
 (2,⟨.int .i64,1,8,[.int .i64 0],some (.int .i64)⟩),
 (3,⟨.int .i64,1,8,[.int .i64 0],some (.int .i64)⟩),
 (4,⟨.bool,1,1,[.bool false],some .bool⟩),
 (5,⟨.int .u8,1,1,[.int .u8 0],some (.int .u8)⟩),
 (6,⟨.int .u8,1,1,[.int .u8 0],some (.int .u8)⟩),
 (9,⟨.str,1,16,[.string ByteArray.empty],some .str⟩),
 (12,⟨.int .u64,1,8,[.int .u64 0],some (.int .u64)⟩),
 (22,⟨.sl 38,1,24,[.slice none 0 0],some (.sl (.sl (.pair (.int .i64) (.pair (.int .i64) (.pair (.sl (.int .i64)) (.int .i64))))))⟩),
 (23,⟨.st [(0,1),(1,1)],2,32,[.int .i64 0,.slice none 0 0],some (.pair (.int .i64) (.sl (.sl (.pair (.int .i64) (.pair (.int .i64) (.pair (.sl (.int .i64)) (.int .i64)))))))⟩),
 (24,⟨.st [(0,1),(1,1)],2,32,[.int .i64 0,.slice none 0 0],some (.pair (.int .i64) (.sl (.sl (.pair (.int .i64) (.pair (.int .i64) (.pair (.sl (.int .i64)) (.int .i64)))))))⟩),
 (27,⟨.int .i64,1,8,[.int .i64 0],some (.int .i64)⟩),
 (36,⟨.sl 3,1,24,[.slice none 0 0],some (.sl (.int .i64))⟩),
 (38,⟨.sl 58,1,24,[.slice none 0 0],some (.sl (.pair (.int .i64) (.pair (.int .i64) (.pair (.sl (.int .i64)) (.int .i64)))))⟩),
 (54,⟨.sl 24,1,24,[.slice none 0 0],some (.sl (.pair (.int .i64) (.sl (.sl (.pair (.int .i64) (.pair (.int .i64) (.pair (.sl (.int .i64)) (.int .i64))))))))⟩),
 (55,⟨.st [(0,1),(1,1)],2,32,[.slice none 0 0,.int .i64 0],some (.pair (.sl (.int .i64)) (.int .i64))⟩),
 (56,⟨.st [(0,1),(1,1)],2,32,[.slice none 0 0,.int .i64 0],some (.pair (.sl (.int .i64)) (.int .i64))⟩),
 (57,⟨.st [(0,1),(1,1),(2,2)],4,48,[.int .i64 0,.int .i64 0,.slice none 0 0,.int .i64 0],some (.pair (.int .i64) (.pair (.int .i64) (.pair (.sl (.int .i64)) (.int .i64))))⟩),
 (58,⟨.st [(0,1),(1,1),(2,2)],4,48,[.int .i64 0,.int .i64 0,.slice none 0 0,.int .i64 0],some (.pair (.int .i64) (.pair (.int .i64) (.pair (.sl (.int .i64)) (.int .i64))))⟩),
 (60,⟨.fn,1,8,[.nilFunc],none⟩),
 (65,⟨.fn,1,8,[.nilFunc],none⟩),
 (66,⟨.fn,1,8,[.nilFunc],none⟩),
 (69,⟨.fn,1,8,[.nilFunc],none⟩),
 (70,⟨.fn,1,8,[.nilFunc],none⟩),
 (71,⟨.fn,1,8,[.nilFunc],none⟩),
 (72,⟨.arr 2 4,2,2,[.bool false,.bool false],none⟩),
 (76,⟨.fn,1,8,[.nilFunc],none⟩),
 (85,⟨.sl 4,1,24,[.slice none 0 0],some (.sl .bool)⟩),
 (88,⟨.sl 118,1,24,[.slice none 0 0],some (.sl (.pair (.pair (.int .i64) (.pair (.int .i64) (.pair (.sl (.int .i64)) (.int .i64)))) (.pair (.int .i64) (.pair (.sl (.int .i64)) (.int .i64)))))⟩),
 (89,⟨.st [(0,1),(1,1),(2,1),(3,1),(4,1),(5,1),(6,1)],7,136,[.int .i64 0,.slice none 0 0,.slice none 0 0,.int .i64 0,.slice none 0 0,.slice none 0 0,.slice none 0 0],some (.pair (.int .i64) (.pair (.sl (.pair (.int .i64) (.pair (.int .i64) (.pair (.sl (.int .i64)) (.int .i64))))) (.pair (.sl (.pair (.pair (.int .i64) (.pair (.int .i64) (.pair (.sl (.int .i64)) (.int .i64)))) (.pair (.int .i64) (.pair (.sl (.int .i64)) (.int .i64))))) (.pair (.int .i64) (.pair (.sl (.pair (.pair (.int .i64) (.pair (.int .i64) (.pair (.sl (.int .i64)) (.int .i64)))) (.pair (.int .i64) (.pair (.sl (.int .i64)) (.int .i64))))) (.pair (.sl (.pair (.pair (.int .i64) (.pair (.int .i64) (.pair (.sl (.int .i64)) (.int .i64)))) (.pair (.int .i64) (.pair (.sl (.int .i64)) (.int .i64))))) (.sl (.pair (.pair (.int .i64) (.pair (.int .i64) (.pair (.sl (.int .i64)) (.int .i64)))) (.pair (.int .i64) (.pair (.sl (.int .i64)) (.int .i64)))))))))))⟩),
 (90,⟨.st [(0,1),(1,1),(2,1),(3,1),(4,1),(5,1),(6,1)],7,136,[.int .i64 0,.slice none 0 0,.slice none 0 0,.int .i64 0,.slice none 0 0,.slice none 0 0,.slice none 0 0],some (.pair (.int .i64) (.pair (.sl (.pair (.int .i64) (.pair (.int .i64) (.pair (.sl (.int .i64)) (.int .i64))))) (.pair (.sl (.pair (.pair (.int .i64) (.pair (.int .i64) (.pair (.sl (.int .i64)) (.int .i64)))) (.pair (.int .i64) (.pair (.sl (.int .i64)) (.int .i64))))) (.pair (.int .i64) (.pair (.sl (.pair (.pair (.int .i64) (.pair (.int .i64) (.pair (.sl (.int .i64)) (.int .i64)))) (.pair (.int .i64) (.pair (.sl (.int .i64)) (.int .i64))))) (.pair (.sl (.pair (.pair (.int .i64) (.pair (.int .i64) (.pair (.sl (.int .i64)) (.int .i64)))) (.pair (.int .i64) (.pair (.sl (.int .i64)) (.int .i64))))) (.sl (.pair (.pair (.int .i64) (.pair (.int .i64) (.pair (.sl (.int .i64)) (.int .i64)))) (.pair (.int .i64) (.pair (.sl (.int .i64)) (.int .i64)))))))))))⟩),
 (92,⟨.fn,1,8,[.nilFunc],none⟩),
 (93,⟨.fn,1,8,[.nilFunc],none⟩),
 (94,⟨.fn,1,8,[.nilFunc],none⟩),
 (95,⟨.fn,1,8,[.nilFunc],none⟩),
 (96,⟨.sl 65,1,24,[.slice none 0 0],none⟩),
 (97,⟨.map 9 4,1,8,[.map none],none⟩),
 (110,⟨.fn,1,8,[.nilFunc],none⟩),
 (117,⟨.st [(0,4),(4,1),(5,2)],7,88,[.int .i64 0,.int .i64 0,.slice none 0 0,.int .i64 0,.int .i64 0,.slice none 0 0,.int .i64 0],some (.pair (.pair (.int .i64) (.pair (.int .i64) (.pair (.sl (.int .i64)) (.int .i64)))) (.pair (.int .i64) (.pair (.sl (.int .i64)) (.int .i64))))⟩),
 (118,⟨.st [(0,4),(4,1),(5,2)],7,88,[.int .i64 0,.int .i64 0,.slice none 0 0,.int .i64 0,.int .i64 0,.slice none 0 0,.int .i64 0],some (.pair (.pair (.int .i64) (.pair (.int .i64) (.pair (.sl (.int .i64)) (.int .i64)))) (.pair (.int .i64) (.pair (.sl (.int .i64)) (.int .i64))))⟩),
 (127,⟨.fn,1,8,[.nilFunc],none⟩),
 (129,⟨.sl 5,1,24,[.slice none 0 0],some (.sl (.int .u8))⟩),
 (139,⟨.ptr,1,8,[.pointer none],none⟩),
 (140,⟨.fn,1,8,[.nilFunc],none⟩),
 (141,⟨.arr 3 140,3,24,[.nilFunc,.nilFunc,.nilFunc],none⟩),
 (143,⟨.st [(0,4)],4,48,[.int .i64 0,.int .i64 0,.slice none 0 0,.int .i64 0],some (.pair (.int .i64) (.pair (.int .i64) (.pair (.sl (.int .i64)) (.int .i64))))⟩),
 (144,⟨.st [(0,4)],4,48,[.int .i64 0,.int .i64 0,.slice none 0 0,.int .i64 0],some (.pair (.int .i64) (.pair (.int .i64) (.pair (.sl (.int .i64)) (.int .i64))))⟩),
 (145,⟨.map 9 3,1,8,[.map none],none⟩),
 (146,⟨.map 3 4,1,8,[.map none],none⟩),
 (150,⟨.int .u64,1,8,[.int .u64 0],some (.int .u64)⟩),
 (151,⟨.arr 3 3,3,24,[.int .i64 0,.int .i64 0,.int .i64 0],none⟩),
 (161,⟨.int .u64,1,8,[.int .u64 0],some (.int .u64)⟩),
 (164,⟨.fn,1,8,[.nilFunc],none⟩)]
theorem ZxU:∀ p∈Zvy,p.2.Ok prog p.1:=by
 refine List.forall_mem_cons.2 ⟨TI.ok_mk (by kernel_rfl) (⟨_,_,_,Tryz.underlying1⟩) trivial,?_⟩
 refine List.forall_mem_cons.2 ⟨TI.ok_mk (by kernel_rfl) (Tryz.underlying2) ⟨rfl,by decide,rfl⟩,?_⟩
 refine List.forall_mem_cons.2 ⟨TI.ok_mk (by kernel_rfl) (Tryz.underlying3) ⟨rfl,by decide,rfl⟩,?_⟩
 refine List.forall_mem_cons.2 ⟨TI.ok_mk (by kernel_rfl) (Tryz.underlying4) ⟨rfl,by decide,rfl⟩,?_⟩
 refine List.forall_mem_cons.2 ⟨TI.ok_mk (by kernel_rfl) (Tryz.underlying5) ⟨rfl,by decide,rfl⟩,?_⟩
 refine List.forall_mem_cons.2 ⟨TI.ok_mk (by kernel_rfl) (Tryz.underlying6) ⟨rfl,by decide,rfl⟩,?_⟩
 refine List.forall_mem_cons.2 ⟨TI.ok_mk (by kernel_rfl) (Tryz.underlying9) ⟨rfl,by decide,rfl⟩,?_⟩
 refine List.forall_mem_cons.2 ⟨TI.ok_mk (by kernel_rfl) (Tryz.underlying12) ⟨rfl,by decide,rfl⟩,?_⟩
 refine List.forall_mem_cons.2 ⟨TI.ok_mk (by kernel_rfl) (Tryz.underlying22) ⟨rfl,by decide,rfl⟩,?_⟩
 refine List.forall_mem_cons.2 ⟨TI.ok_mk (by kernel_rfl) (⟨_,Tryz.underlying23,by kernel_rfl,by decide⟩) ⟨rfl,by decide,rfl⟩,?_⟩
 refine List.forall_mem_cons.2 ⟨TI.ok_mk (by kernel_rfl) (⟨_,Tryz.underlying24,by kernel_rfl,by decide⟩) ⟨rfl,by decide,rfl⟩,?_⟩
 refine List.forall_mem_cons.2 ⟨TI.ok_mk (by kernel_rfl) (Tryz.underlying27) ⟨rfl,by decide,rfl⟩,?_⟩
 refine List.forall_mem_cons.2 ⟨TI.ok_mk (by kernel_rfl) (Tryz.underlying36) ⟨rfl,by decide,rfl⟩,?_⟩
 refine List.forall_mem_cons.2 ⟨TI.ok_mk (by kernel_rfl) (Tryz.underlying38) ⟨rfl,by decide,rfl⟩,?_⟩
 refine List.forall_mem_cons.2 ⟨TI.ok_mk (by kernel_rfl) (Tryz.underlying54) ⟨rfl,by decide,rfl⟩,?_⟩
 refine List.forall_mem_cons.2 ⟨TI.ok_mk (by kernel_rfl) (⟨_,Tryz.underlying55,by kernel_rfl,by decide⟩) ⟨rfl,by decide,rfl⟩,?_⟩
 refine List.forall_mem_cons.2 ⟨TI.ok_mk (by kernel_rfl) (⟨_,Tryz.underlying56,by kernel_rfl,by decide⟩) ⟨rfl,by decide,rfl⟩,?_⟩
 refine List.forall_mem_cons.2 ⟨TI.ok_mk (by kernel_rfl) (⟨_,Tryz.underlying57,by kernel_rfl,by decide⟩) ⟨rfl,by decide,rfl⟩,?_⟩
 refine List.forall_mem_cons.2 ⟨TI.ok_mk (by kernel_rfl) (⟨_,Tryz.underlying58,by kernel_rfl,by decide⟩) ⟨rfl,by decide,rfl⟩,?_⟩
 refine List.forall_mem_cons.2 ⟨TI.ok_mk (by kernel_rfl) (⟨_,_,_,Tryz.underlying60⟩) trivial,?_⟩
 refine List.forall_mem_cons.2 ⟨TI.ok_mk (by kernel_rfl) (⟨_,_,_,Tryz.underlying65⟩) trivial,?_⟩
 refine List.forall_mem_cons.2 ⟨TI.ok_mk (by kernel_rfl) (⟨_,_,_,Tryz.underlying66⟩) trivial,?_⟩
 refine List.forall_mem_cons.2 ⟨TI.ok_mk (by kernel_rfl) (⟨_,_,_,Tryz.underlying69⟩) trivial,?_⟩
 refine List.forall_mem_cons.2 ⟨TI.ok_mk (by kernel_rfl) (⟨_,_,_,Tryz.underlying70⟩) trivial,?_⟩
 refine List.forall_mem_cons.2 ⟨TI.ok_mk (by kernel_rfl) (⟨_,_,_,Tryz.underlying71⟩) trivial,?_⟩
 refine List.forall_mem_cons.2 ⟨TI.ok_mk (by kernel_rfl) (⟨Tryz.underlying72,[.bool false],1,by kernel_rfl,by kernel_rfl,rfl,by decide,by decide,by decide⟩) trivial,?_⟩
 refine List.forall_mem_cons.2 ⟨TI.ok_mk (by kernel_rfl) (⟨_,_,_,Tryz.underlying76⟩) trivial,?_⟩
 refine List.forall_mem_cons.2 ⟨TI.ok_mk (by kernel_rfl) (Tryz.underlying85) ⟨rfl,by decide,rfl⟩,?_⟩
 refine List.forall_mem_cons.2 ⟨TI.ok_mk (by kernel_rfl) (Tryz.underlying88) ⟨rfl,by decide,rfl⟩,?_⟩
 refine List.forall_mem_cons.2 ⟨TI.ok_mk (by kernel_rfl) (⟨_,Tryz.underlying89,by kernel_rfl,by decide⟩) ⟨rfl,by decide,rfl⟩,?_⟩
 refine List.forall_mem_cons.2 ⟨TI.ok_mk (by kernel_rfl) (⟨_,Tryz.underlying90,by kernel_rfl,by decide⟩) ⟨rfl,by decide,rfl⟩,?_⟩
 refine List.forall_mem_cons.2 ⟨TI.ok_mk (by kernel_rfl) (⟨_,_,_,Tryz.underlying92⟩) trivial,?_⟩
 refine List.forall_mem_cons.2 ⟨TI.ok_mk (by kernel_rfl) (⟨_,_,_,Tryz.underlying93⟩) trivial,?_⟩
 refine List.forall_mem_cons.2 ⟨TI.ok_mk (by kernel_rfl) (⟨_,_,_,Tryz.underlying94⟩) trivial,?_⟩
 refine List.forall_mem_cons.2 ⟨TI.ok_mk (by kernel_rfl) (⟨_,_,_,Tryz.underlying95⟩) trivial,?_⟩
 refine List.forall_mem_cons.2 ⟨TI.ok_mk (by kernel_rfl) (Tryz.underlying96) trivial,?_⟩
 refine List.forall_mem_cons.2 ⟨TI.ok_mk (by kernel_rfl) (⟨Tryz.underlying97,by kernel_rfl⟩) trivial,?_⟩
 refine List.forall_mem_cons.2 ⟨TI.ok_mk (by kernel_rfl) (⟨_,_,_,Tryz.underlying110⟩) trivial,?_⟩
 refine List.forall_mem_cons.2 ⟨TI.ok_mk (by kernel_rfl) (⟨_,Tryz.underlying117,by kernel_rfl,by decide⟩) ⟨rfl,by decide,rfl⟩,?_⟩
 refine List.forall_mem_cons.2 ⟨TI.ok_mk (by kernel_rfl) (⟨_,Tryz.underlying118,by kernel_rfl,by decide⟩) ⟨rfl,by decide,rfl⟩,?_⟩
 refine List.forall_mem_cons.2 ⟨TI.ok_mk (by kernel_rfl) (⟨_,_,_,Tryz.underlying127⟩) trivial,?_⟩
 refine List.forall_mem_cons.2 ⟨TI.ok_mk (by kernel_rfl) (Tryz.underlying129) ⟨rfl,by decide,rfl⟩,?_⟩
 refine List.forall_mem_cons.2 ⟨TI.ok_mk (by kernel_rfl) (⟨_,Tryz.underlying139⟩) trivial,?_⟩
 refine List.forall_mem_cons.2 ⟨TI.ok_mk (by kernel_rfl) (⟨_,_,_,Tryz.underlying140⟩) trivial,?_⟩
 refine List.forall_mem_cons.2 ⟨TI.ok_mk (by kernel_rfl) (⟨Tryz.underlying141,[.nilFunc],1,by kernel_rfl,by kernel_rfl,rfl,by decide,by decide,by decide⟩) trivial,?_⟩
 refine List.forall_mem_cons.2 ⟨TI.ok_mk (by kernel_rfl) (⟨_,Tryz.underlying143,by kernel_rfl,by decide⟩) ⟨rfl,by decide,rfl⟩,?_⟩
 refine List.forall_mem_cons.2 ⟨TI.ok_mk (by kernel_rfl) (⟨_,Tryz.underlying144,by kernel_rfl,by decide⟩) ⟨rfl,by decide,rfl⟩,?_⟩
 refine List.forall_mem_cons.2 ⟨TI.ok_mk (by kernel_rfl) (⟨Tryz.underlying145,by kernel_rfl⟩) trivial,?_⟩
 refine List.forall_mem_cons.2 ⟨TI.ok_mk (by kernel_rfl) (⟨Tryz.underlying146,by kernel_rfl⟩) trivial,?_⟩
 refine List.forall_mem_cons.2 ⟨TI.ok_mk (by kernel_rfl) (Tryz.underlying150) ⟨rfl,by decide,rfl⟩,?_⟩
 refine List.forall_mem_cons.2 ⟨TI.ok_mk (by kernel_rfl) (⟨Tryz.underlying151,[.int .i64 0],1,by kernel_rfl,by kernel_rfl,rfl,by decide,by decide,by decide⟩) trivial,?_⟩
 refine List.forall_mem_cons.2 ⟨TI.ok_mk (by kernel_rfl) (Tryz.underlying161) ⟨rfl,by decide,rfl⟩,?_⟩
 refine List.forall_mem_cons.2 ⟨TI.ok_mk (by kernel_rfl) (⟨_,_,_,Tryz.underlying164⟩) trivial,?_⟩
 exact fun _ h=>absurd h (by simp)
def τ0:Zar:=fun n=>Zcu n Zvy
def τw:Zar:=fun n=>Zcu n (Zvy.filter fun p=>!(Nat.beq p.1 1))
theorem Za1:Zbs prog τ0:=Ztm ZxU
theorem ZxW:Zbs prog τw:=Zr7 ZxU _
theorem mixed:prog.follows .mixedOrders=true:=by kernel_rfl
end Go.Proofs.YtgpdnmfpgkkgcaaGreatDoor
