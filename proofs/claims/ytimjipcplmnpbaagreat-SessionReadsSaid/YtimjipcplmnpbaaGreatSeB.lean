/-
  Layer 14's laws: the bytes of a command, or others.
-/
import Derived.Test.YtimjipcplmnpbaaGreatOpenCmd
import Derived.Test.YtimjipcplmnpbaaGreatRdPlain
namespace Go.Proofs.YtimjipcplmnpbaaGreat
open Go.RowKit

/-- a command as the laws tell it -/
def seCmd (x : Cmd) : Cmd := { x with name := cut x.name 32, disks := diskOf x.disks }
def seBytes (x : Cmd) (o : ByteArray) : List UInt8 := if (seCmd x).good = true then (seCmd x).enc else (cut o 60).data.toList
theorem seCmd_wf {x : Cmd} (h : x.Wf) : (seCmd x).Wf := by
  obtain ⟨h1, h2, h3, h4, h5, h6, h7, h8, h9, _⟩ := h
  refine ⟨h1, h2, h3, h4, h5, h6, h7, h8, h9, fun d hd => ?_⟩
  have := rises_in (diskOf_risesB x.disks) d hd
  omega
theorem enc_len {c : Cmd} (h : c.good = true) : c.enc.length ≤ 300 := by
  obtain ⟨_, _, h3, _, _, h6, _⟩ := Cmd.good_iff.1 h
  have h7 := rises_len h3
  have e : c.enc = ienc c.kind ++ (ienc c.client ++ (ienc c.seq ++ (senc c.name ++ (uenc c.blob ++ (ienc c.size ++ (uenc c.sum ++ (lenc c.disks ++ (ienc c.pool ++ (ienc c.vol ++ ienc c.at_))))))))) := by
    simp [Cmd.enc, Cmd.enc1, List.append_assoc]
  rw [e]
  simp only [List.length_append]
  have a1 := ienc_length c.kind
  have a2 := ienc_length c.client
  have a3 := ienc_length c.seq
  have a4 := senc_length c.name
  have a5 := uenc_length c.blob
  have a6 := ienc_length c.size
  have a7 := uenc_length c.sum
  have a8 := lenc_length c.disks
  have a9 := ienc_length c.pool
  have a10 := ienc_length c.vol
  have a11 := ienc_length c.at_
  omega
theorem seBytes_len (x : Cmd) (o : ByteArray) : (seBytes x o).length ≤ 300 := by
  unfold seBytes
  split
  · rename_i h; exact enc_len h
  · have := cut_size o 60
    have e : (cut o 60).data.toList.length = (cut o 60).size := by simp
    omega
theorem cread_se {x : Cmd} (hw : x.Wf) (hg : (seCmd x).good = true) (o : ByteArray) : cread (seBytes x o) = (seCmd x, 0) := by
  unfold seBytes
  rw [if_pos hg]
  exact cread_enc hg (seCmd_wf hw)
end Go.Proofs.YtimjipcplmnpbaaGreat
