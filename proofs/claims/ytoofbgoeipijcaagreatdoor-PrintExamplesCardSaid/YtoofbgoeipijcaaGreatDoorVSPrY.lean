/-
 A part.
-/
import Derived.Test.YtoofbgoeipijcaaGreatDoorVB12
namespace Go.Proofs.YtoofbgoeipijcaaGreatDoor
set_option linter.all false
open Go.RowKit Go.Shelf
attribute [local go_sem] Oper.semAt_some
set_option maxRecDepth 100000 in
set_option maxHeartbeats 4000000 in
theorem alone_any (x:In) (v:Value) (w:World) (h:SlG kAg (·<w.heap.size) w v x.args) :
  Calls Tryz.prog 95 #[.agg #[.int .u8 (x.kind:Int),.int .u8 (x.op:Int),.string ⟨x.dst.toArray⟩,.string ⟨x.nm.toArray⟩,v,.int .i64 x.pos.1,.int .i64 x.pos.2]] w fun e w' =>
   ∃ bi bf,w.heap.size<=bi/\w.heap.size<=bf/\bi ≠ bf/\e=.returned (.agg #[.int .i64 1,.slice none 0 0,.slice none 0 0,.slice (some ⟨bf,0,none⟩) 1 1,.slice none 0 0]) /\
    BxL 41 bi (inL { x with pos:=(1,1) } v) w'/\BxL 74 bf [.string ⟨#[102]⟩,.slice none 0 0,.slice (some ⟨bi,0,none⟩) 1 1,.int .i64 0,.int .i64 0] w'/\Below w.heap.size w w':=by
 obtain ⟨pa,ca,rfl⟩:=h.slc
 clear h
 go_enter Tryz.func95,Tryz.ntmps95
 go_wp2_with fail
 refine bodyPost_ret (v := .agg #[.int .i64 1,.slice none 0 0,.slice none 0 0,.slice (some ⟨w.heap.size+1+1+1,0,none⟩) 1 1,.slice none 0 0]) (by simp [results,Tryz.results95,go_sem]) rfl ?_
 have h1:=BxL.new 41 ((w.alloc (.cells #[.int .u8 (x.kind:Int),.int .u8 (x.op:Int),.string ⟨x.dst.toArray⟩,.string ⟨x.nm.toArray⟩,.slice pa x.args.length ca,.int .i64 1,.int .i64 1] 41)).alloc (.cells #[.int .i64 1,.slice none 0 0,.slice none 0 0,.slice (some ⟨w.heap.size+1+1+1,0,none⟩) 1 1,.slice none 0 0] 27)) (inL { x with pos:=(1,1) } (.slice pa x.args.length ca))
 have h2:=BxL.new 74 (((w.alloc (.cells #[.int .u8 (x.kind:Int),.int .u8 (x.op:Int),.string ⟨x.dst.toArray⟩,.string ⟨x.nm.toArray⟩,.slice pa x.args.length ca,.int .i64 1,.int .i64 1] 41)).alloc (.cells #[.int .i64 1,.slice none 0 0,.slice none 0 0,.slice (some ⟨w.heap.size+1+1+1,0,none⟩) 1 1,.slice none 0 0] 27)).alloc (.cells (inL { x with pos:=(1,1) } (.slice pa x.args.length ca)).toArray 41)) [.string ⟨#[102]⟩,.slice none 0 0,.slice (some ⟨w.heap.size+1+1,0,none⟩) 1 1,.int .i64 0,.int .i64 0]
 simp only [sA] at h1 h2
 refine ⟨w.heap.size+1+1,w.heap.size+1+1+1,by omega,by omega,by omega,rfl,h1.al _,h2,?_⟩
 exact (((bA).alloc (by simp only [sA];omega) _).alloc (by simp only [sA];omega) _).alloc (by simp only [sA];omega) _
end Go.Proofs.YtoofbgoeipijcaaGreatDoor
